/- SnapFirst: what the law does, where what it reads is small. -/
import Derived.Test.YthgdinjgdjiknaaSnapAwake
import Derived.Test.YthgdinjgdjiknaaAlUpto
namespace Go.Proofs.Ythgdinjgdjiknaa
open Go.Al Go.Proofs
set_option linter.unusedVariables false
set_option linter.unusedSimpArgs false
set_option linter.unusedSectionVars false
set_option maxRecDepth 100000

theorem max_mem (f : Int → Int) : ∀ (l : List Int), l ≠ [] → ∃ x ∈ l, ∀ y ∈ l, f y ≤ f x
  | [], h => absurd rfl h
  | [a], _ => ⟨a, by simp, by simp⟩
  | a :: b :: l, _ => by
    obtain ⟨x, hx, hm⟩ := max_mem f (b :: l) (by simp)
    by_cases h : f x ≤ f a
    · refine ⟨a, by simp, fun y hy => ?_⟩
      rcases List.mem_cons.1 hy with rfl | hy
      · omega
      · have := hm y hy; omega
    · refine ⟨x, List.mem_cons_of_mem _ hx, fun y hy => ?_⟩
      rcases List.mem_cons.1 hy with rfl | hy
      · omega
      · exact hm y hy
theorem xAdd_ok {m x : Int} (h : xAdd m x 0 ≠ 0) : modOk m = true ∧ idOk m x = true := by
  unfold xAdd at h
  cases h1 : modOk m with
  | false => rw [h1] at h; simp at h
  | true =>
    cases h2 : idOk m x with
    | false => rw [h1, h2] at h; simp at h
    | true => exact ⟨rfl, rfl⟩
/-- Near one another: one of them has none ahead of it. -/
theorem near_first {m next : Int} {l : List Int} (hne : l ≠ []) (hn : next ∈ l) (h : ∀ x ∈ l, xAdd m x 0 ≠ 0 ∧ xGap m x next ≤ m / 4) : ∃ x ∈ l, ∀ y ∈ l, xBefore m y x = false := by
  obtain ⟨x, hx, hmax⟩ := max_mem (fun y => xGap m y next) l hne
  refine ⟨x, hx, fun y hy => ?_⟩
  have g : ∀ a ∈ l, ∀ b ∈ l, xGap m a b = (b - a) % m := by
    intro a ha b hb
    obtain ⟨h1, h2⟩ := xAdd_ok (h a ha).1
    obtain ⟨_, h3⟩ := xAdd_ok (h b hb).1
    unfold xGap
    rw [h1, h2, h3]; rfl
  obtain ⟨h1, h2⟩ := xAdd_ok (h x hx).1
  have hm := idOk_in h1 h2
  have gx := (h x hx).2
  have gy := (h y hy).2
  have hle : xGap m y next ≤ xGap m x next := hmax y hy
  rw [g x hx next hn] at gx hle
  rw [g y hy next hn] at gy hle
  have px := Int.emod_nonneg (next - x) (show m ≠ 0 by omega)
  have py := Int.emod_nonneg (next - y) (show m ≠ 0 by omega)
  have key : (x - y) % m = ((next - y) % m - (next - x) % m) % m := by
    have e1 := Int.mul_ediv_add_emod (next - y) m
    have e2 := Int.mul_ediv_add_emod (next - x) m
    have : x - y = ((next - y) % m - (next - x) % m) + m * ((next - y) / m - (next - x) / m) := by rw [Int.mul_sub]; omega
    rw [this, Int.add_mul_emod_self_left]
  unfold xBefore
  rw [g y hy x hx, key, decide_eq_false_iff_not]
  generalize (next - y) % m = a at *
  generalize (next - x) % m = b at *
  by_cases hab : a = b
  · subst hab; simp
  · have : (a - b) % m = a - b + m := by
      rw [← Int.add_emod_right, Int.emod_eq_of_lt (by omega) (by omega)]
    omega

abbrev RunsT := List Int × List SnT × Unit
def vRuns : Vw Try.prog 107 RunsT := vStruct Try.underlying107 (fvCons rfl 1 (by kernel_rfl) vInts (fvCons rfl 1 (by kernel_rfl) vSnaps fvNil)) (by kernel_rfl)
theorem runs_in {w : World} {cs : Array Value} {x : RunsT} (h : vRuns.rel w cs.toList x) : ∃ rv sv, cs = #[rv, sv] ∧ SliceAs vI w rv x.1 ∧ SliceAs vSnap w sv x.2.1 := by
  obtain ⟨run, snaps, u⟩ := x
  obtain ⟨c0, r0, h0, ⟨rv, rfl, h1⟩, c1, r1, rfl, ⟨sv, rfl, h2⟩, h6⟩ := h
  cases h6
  refine ⟨rv, sv, ?_, h1, h2⟩
  apply Array.ext'
  rw [h0]; rfl
theorem vRuns_szd : Szd vRuns (fun x => ((x.1.map fun _ => 1).sum + 1) + (((x.2.1.map fun s => 1 + (((s.2.1.map fun _ => 1).sum + 1) + 0)).sum + 1) + 0)) :=
  Szd.struct (SzF.cons (Szd.slice (Szd.one _)) (SzF.cons (Szd.slice (Szd.struct (SzF.cons (Szd.one _) (SzF.cons (Szd.slice (Szd.one _)) SzF.nil)))) SzF.nil))
theorem ones_sum {α : Type} (l : List α) : (l.map fun _ => 1).sum = l.length := by
  induction l with
  | nil => rfl
  | cons a l ih => simp only [List.map_cons, List.sum_cons, ih, List.length_cons]; omega
theorem runs_len {next : Int} {x : RunsT} (h : ((x.1.map fun _ => 1).sum + 1) + (((x.2.1.map fun s => 1 + (((s.2.1.map fun _ => 1).sum + 1) + 0)).sum + 1) + 0) ≤ 1048576) : (horL next x.1 x.2.1).length ≤ 1048577 := by
  have : ∀ L : List SnT, (L.flatMap fun s => s.1 :: s.2.1).length ≤ (L.map fun s => 1 + (((s.2.1.map fun _ => 1).sum + 1) + 0)).sum := by
    intro L
    induction L with
    | nil => simp
    | cons s L ih => simp only [List.flatMap_cons, List.length_append, List.map_cons, List.sum_cons, List.length_cons, ones_sum] at ih ⊢; omega
  have h2 := this x.2.1
  unfold horL
  rw [ones_sum] at h
  simp only [List.length_cons, List.length_append]
  omega

theorem beq_zero (x : Int) : (x == 0) = decide (x = 0) := beq_dec x 0

set_option maxHeartbeats 2000000 in
theorem snapFirst_law {w : World} {m next : Int} (hm : In m) {cs : Array Value} {x : RunsT} (hx : vRuns.rel w cs.toList x) (hb : (horL next x.1 x.2.1).length ≤ 1048577) :
    Cl Try.prog 12 [iv m, iv next, .agg cs] w fun v w' => v = .bool true ∧ Fm (fun _ => False) w w' := by
  obtain ⟨rv, sv, rfl, hr, hs⟩ := runs_in hx
  obtain ⟨running, snaps, u⟩ := x
  simp only at hr hs hb
  have hslen := hs.len
  unfold maxLen at hslen
  have hone : ∀ l : List Int, ∀ u ∈ l.map iv, u.oneCell' = true := fun l u hu => by obtain ⟨x, _, rfl⟩ := List.mem_map.1 hu; rfl
  have hb0 : (1 + running.length) ≤ 1048577 := by
    have := horL_len (next := next) (running := running) (snaps := snaps) 0
    unfold horL at this hb
    simp at this hb
    omega
  refine c12 ?_; unfold T12
  refine New_any ?_
  intro x5 w1 hx5 hs1 hw1 hf1
  replace hw1 : w1.heap[x5]? = some (.cells #[rv, sv] 107) := hw1
  refine RunS_ok (bs34s next w1) ?_
  have ho2 := own_alloc (w := w1) (e := 3) (l := [iv next]) (by simp [maxLen]) (Nat.le_refl _)
  have hf2 := Fm.alloc (fun _ => False) w1 (.cells #[iv next] 3)
  replace ho2 : (w1.alloc (.cells #[iv next] 3)).ownsRow w1.heap.size 3 1 (.slice (some ⟨w1.heap.size, 0, none⟩) 1 1) 1 [iv next] := ho2
  generalize w1.alloc (.cells #[iv next] 3) = w2 at ho2 hf2
  have hw2 := hf2.heap hw1 (fun e => e)
  have hrc := (ints_in hr).1
  have hz1 := hf1.size
  have hz2 := hf2.size
  have hx5l := lt_of_heap hw1
  have q0 : w2.cell? ⟨x5, 0, none⟩ = some rv := by rw [cell_at hw2]; rfl
  simp only [Pu_some, extV_0, extV_1, extV_2, extV_3, nilV_ptr, nilV_fn, faV_ptr, lenV_sl, lenS_s, capV_sl, pickV_t, pickV_f, unV_not, unV_neg, isB_t, isB_f, isB_u, binV_add, binV_sub, binV_mul, binV_eql, binV_neq, binV_lss, binV_leq, binV_gtr, binV_geq, binV_seql, binV_sneq, binV_slss, binV_beql, binV_bneq, binV_peql, binV_pneq, add_add, add_none, Go.Al.add_zero, Nat.zero_add, Nat.add_zero, IfB_t, IfB_f, Gd_t, Gd_f, Ld_ptr, LdN_ptr, Option.isNone_some, Option.isNone_none, Option.isSome_some, Option.isSome_none, Bool.not_true, Bool.not_false, drew_cell, drew_heap, q0]
  obtain ⟨lv, w3, hr3, ho3, hf3⟩ := append_srcO E34 (by omega) ho2 (hrc.keep (Fmf hf1 hf2) (fun _ _ e => e)) (hone _) 34 (by unfold maxLen; omega) (by omega) hz2
  refine RunS_ok hr3 ?_
  have hF2 := Fmf hf1 hf2
  have hf2_3 : Fm (fun b => w1.heap.size ≤ b) w2 w3 := hf3.trans (Fm.refl (fun _ => False) _) (fun x _ e => (own_lt ho2 x e).1) (fun _ _ e => e.elim)
  have hinit : [iv next] ++ running.map iv = (horL next running (snaps.take 0)).map iv := by simp [horL]
  have hinl : 1 + running.length = (horL next running (snaps.take 0)).length := by simp [horL]; omega
  rw [hinit, hinl] at ho3
  refine ⟨fun vs w6 => ∃ (i : Nat) (lv : Value), vs = [lv, iv i] ∧ i ≤ snaps.length ∧ w6.ownsRow w1.heap.size 3 1 lv (horL next running (snaps.take i)).length ((horL next running (snaps.take i)).map iv) ∧ Fm (fun b => w1.heap.size ≤ b) w2 w6, fun vs _ => (snaps.length - nth vs 1).toNat, ⟨0, lv, rfl, by omega, ho3, hf2_3⟩, ?_⟩
  clear ho3 hr3 hf2_3
  rintro _ w6 lv_ iv_ ⟨i, lv, hvs, hi, ho6, hf6⟩
  cases hvs
  have hF6 : Fm (fun _ => False) w w6 := Fm.own hF2 hf6 (by intro x hx; omega)
  have hz6 := hf6.size
  have hw6 := hf6.heap hw2 (by omega)
  have q1 : w6.cell? ⟨x5, 1, none⟩ = some sv := by rw [cell_at hw6]; rfl
  by_cases hlt : i < snaps.length
  · have e1 : decide ((i : Int) < (snaps.length : Int)) = true := by rw [decide_eq_true_eq]; omega
    have e2 : IntKind.i64.wrap ((i : Int) + 1) = ((i + 1 : Nat) : Int) := by rw [wrap_id] <;> omega
    have hxi : snaps[i]? = some snaps[i] := List.getElem?_eq_getElem hlt
    generalize snaps[i] = s at hxi
    have hlen1 := horL_len (next := next) (running := running) (snaps := snaps) (i + 1)
    have htk := horL_take (next := next) (running := running) hxi
    rw [htk] at hlen1
    simp only [List.length_append, List.length_singleton] at hlen1
    obtain ⟨ad, av, hix, p1, p2, hav, hsin⟩ := snap_at hs hxi
    obtain ⟨hac0, _, _⟩ := ints_in hav
    have hblt : s.2.1.map iv ≠ [] → ∀ g, blockOf av = some g → g < w1.heap.size := fun h1 g h2 => by have := hac0.blt h1 g h2; omega
    have p1' := hF6.cell' p1 (fun e => e)
    simp only [Pu_some, extV_0, extV_1, extV_2, extV_3, nilV_ptr, nilV_fn, faV_ptr, lenV_sl, lenS_s, capV_sl, pickV_t, pickV_f, unV_not, unV_neg, isB_t, isB_f, isB_u, binV_add, binV_sub, binV_mul, binV_eql, binV_neq, binV_lss, binV_leq, binV_gtr, binV_geq, binV_seql, binV_sneq, binV_slss, binV_beql, binV_bneq, binV_peql, binV_pneq, add_add, add_none, Go.Al.add_zero, Nat.zero_add, Nat.add_zero, IfB_t, IfB_f, Gd_t, Gd_f, Ld_ptr, LdN_ptr, Option.isNone_some, Option.isNone_none, Option.isSome_some, Option.isSome_none, Bool.not_true, Bool.not_false, drew_cell, drew_heap, q1, hs.lenV, e1, hix, p1']
    refine append_el' E34 (by omega) 34 (cs := [iv s.1]) rfl (bs34s s.1 w6) (by intro u hu; simp at hu; subst hu; rfl) ho6 (by unfold maxLen; omega) (by omega) (by omega) ?_
    intro lv2 w7 ho7 _ hf7
    have hl6 := own_lt ho6
    have hf6_7 : Fm (fun b => w1.heap.size ≤ b) w2 w7 := hf6.trans hf7 (fun _ _ e => e) (fun x _ e => (hl6 x e).1)
    have hF7 : Fm (fun _ => False) w w7 := Fm.own hF2 hf6_7 (by intro x hx; omega)
    have hw7 := hf6_7.heap hw2 (by omega)
    have q1' : w7.cell? ⟨x5, 1, none⟩ = some sv := by rw [cell_at hw7]; rfl
    have p2' := hF7.cell' p2 (fun e => e)
    have hz7 := hf6_7.size
    simp only [Pu_some, extV_0, extV_1, extV_2, extV_3, nilV_ptr, nilV_fn, faV_ptr, lenV_sl, lenS_s, capV_sl, pickV_t, pickV_f, unV_not, unV_neg, isB_t, isB_f, isB_u, binV_add, binV_sub, binV_mul, binV_eql, binV_neq, binV_lss, binV_leq, binV_gtr, binV_geq, binV_seql, binV_sneq, binV_slss, binV_beql, binV_bneq, binV_peql, binV_pneq, add_add, add_none, Go.Al.add_zero, Nat.zero_add, Nat.add_zero, IfB_t, IfB_f, Gd_t, Gd_f, Ld_ptr, LdN_ptr, Option.isNone_some, Option.isNone_none, Option.isSome_some, Option.isSome_none, Bool.not_true, Bool.not_false, drew_cell, drew_heap, q1', hix, p2']
    obtain ⟨lv3, w8, hr8, ho8, hf8⟩ := append_srcO E34 (by omega) ho7 (hac0.keep hF7 (fun _ _ e => e)) (hone _) 34 (by unfold maxLen; omega) (by omega) (by omega)
    refine RunS_ok hr8 ?_
    have hl7 := own_lt ho7
    simp only [Pu_some, extV_0, extV_1, extV_2, extV_3, nilV_ptr, nilV_fn, faV_ptr, lenV_sl, lenS_s, capV_sl, pickV_t, pickV_f, unV_not, unV_neg, isB_t, isB_f, isB_u, binV_add, binV_sub, binV_mul, binV_eql, binV_neq, binV_lss, binV_leq, binV_gtr, binV_geq, binV_seql, binV_sneq, binV_slss, binV_beql, binV_bneq, binV_peql, binV_pneq, add_add, add_none, Go.Al.add_zero, Nat.zero_add, Nat.add_zero, IfB_t, IfB_f, Gd_t, Gd_f, Ld_ptr, LdN_ptr, Option.isNone_some, Option.isNone_none, Option.isSome_some, Option.isSome_none, Bool.not_true, Bool.not_false, drew_cell, drew_heap, e2]
    refine ⟨⟨i + 1, lv3, rfl, by omega, ?_, hf6_7.trans hf8 (fun _ _ e => e) (fun x _ e => (hl7 x e).1)⟩, by simp only [nth_1]; omega⟩
    rw [htk]
    simp only [List.map_append, List.length_append, List.length_singleton]
    exact ho8
  have hie : i = snaps.length := by omega
  subst hie
  have e1 : decide (((snaps.length : Nat) : Int) < (snaps.length : Int)) = false := by simp
  rw [List.take_length] at ho6
  simp only [Pu_some, extV_0, extV_1, extV_2, extV_3, nilV_ptr, nilV_fn, faV_ptr, lenV_sl, lenS_s, capV_sl, pickV_t, pickV_f, unV_not, unV_neg, isB_t, isB_f, isB_u, binV_add, binV_sub, binV_mul, binV_eql, binV_neq, binV_lss, binV_leq, binV_gtr, binV_geq, binV_seql, binV_sneq, binV_slss, binV_beql, binV_bneq, binV_peql, binV_pneq, add_add, add_none, Go.Al.add_zero, Nat.zero_add, Nat.add_zero, IfB_t, IfB_f, Gd_t, Gd_f, Ld_ptr, LdN_ptr, Option.isNone_some, Option.isNone_none, Option.isSome_some, Option.isSome_none, Bool.not_true, Bool.not_false, drew_cell, drew_heap, q1, hs.lenV, e1]
  have hL := CellsAt.of_own ho6
  have hne : horL next running snaps ≠ [] := by simp [horL]
  have hnm : next ∈ horL next running snaps := by simp [horL]
  have hbL := hb
  generalize hl : horL next running snaps = l at hL hb hne hnm
  have q0' : w6.cell? ⟨x5, 0, none⟩ = some rv := by rw [cell_at hw6]; rfl
  refine ⟨fun vs w7 => ∃ k : Nat, vs = [iv k] ∧ k ≤ l.length ∧ (∀ x ∈ l.take k, xAdd m x 0 ≠ 0 ∧ xGap m x next ≤ m / 4) ∧ w7 = w6, fun vs _ => (l.length - nth vs 0).toNat, ⟨0, rfl, by omega, by simp, rfl⟩, ?_⟩
  rintro _ w7 ik ⟨k, hvs, hk, hall, rfl⟩
  cases hvs
  by_cases hlt2 : k < l.length
  · have e2 : decide ((k : Int) < (l.length : Int)) = true := by rw [decide_eq_true_eq]; omega
    have e3 : IntKind.i64.wrap ((k : Int) + 1) = ((k + 1 : Nat) : Int) := by rw [wrap_id] <;> omega
    have hxk : l[k]? = some l[k] := List.getElem?_eq_getElem hlt2
    generalize l[k] = y at hxk
    obtain ⟨ad, hix, _, hc⟩ := hL.at1 (i := k) (x := iv y) (by rw [List.getElem?_map, hxk]; rfl) .i64
    simp only [Pu_some, extV_0, extV_1, extV_2, extV_3, nilV_ptr, nilV_fn, faV_ptr, lenV_sl, lenS_s, capV_sl, pickV_t, pickV_f, unV_not, unV_neg, isB_t, isB_f, isB_u, binV_add, binV_sub, binV_mul, binV_eql, binV_neq, binV_lss, binV_leq, binV_gtr, binV_geq, binV_seql, binV_sneq, binV_slss, binV_beql, binV_bneq, binV_peql, binV_pneq, add_add, add_none, Go.Al.add_zero, Nat.zero_add, Nat.add_zero, IfB_t, IfB_f, Gd_t, Gd_f, Ld_ptr, LdN_ptr, Option.isNone_some, Option.isNone_none, Option.isSome_some, Option.isSome_none, Bool.not_true, Bool.not_false, drew_cell, drew_heap, hL.lenV, e2, hix, hc]
    refine (radd_spec w7 hm (x := y) (n := 0)).mono ?_
    rintro _ w7 ⟨rfl, rfl⟩
    have aw : Cl Try.prog 38 [] w7 fun t67_129 w_130 => t67_129 = .bool true ∧ Fm (fun _ => False) w w_130 := (awake_spec w7).mono (by rintro _ w9 ⟨rfl, hf9⟩; exact ⟨rfl, Fmf hF6 hf9⟩)
    by_cases h0 : xAdd m y 0 = 0
    · have e4 : (xAdd m y 0 == 0) = true := by simpa using h0
      simp only [Pu_some, extV_0, extV_1, extV_2, extV_3, nilV_ptr, nilV_fn, faV_ptr, lenV_sl, lenS_s, capV_sl, pickV_t, pickV_f, unV_not, unV_neg, isB_t, isB_f, isB_u, binV_add, binV_sub, binV_mul, binV_eql, binV_neq, binV_lss, binV_leq, binV_gtr, binV_geq, binV_seql, binV_sneq, binV_slss, binV_beql, binV_bneq, binV_peql, binV_pneq, add_add, add_none, Go.Al.add_zero, Nat.zero_add, Nat.add_zero, IfB_t, IfB_f, Gd_t, Gd_f, Ld_ptr, LdN_ptr, Option.isNone_some, Option.isNone_none, Option.isSome_some, Option.isSome_none, Bool.not_true, Bool.not_false, drew_cell, drew_heap, e4]
      exact aw
    have e4 : (xAdd m y 0 == 0) = false := by simpa using h0
    obtain ⟨hmo, hid⟩ := xAdd_ok h0
    have hmm := idOk_in hmo hid
    have e5 := quo_pos (TypeDesc.int IntKind.i64) (a := m) (b := 4) (by omega) (by decide) (by omega)
    simp only [Pu_some, extV_0, extV_1, extV_2, extV_3, nilV_ptr, nilV_fn, faV_ptr, lenV_sl, lenS_s, capV_sl, pickV_t, pickV_f, unV_not, unV_neg, isB_t, isB_f, isB_u, binV_add, binV_sub, binV_mul, binV_eql, binV_neq, binV_lss, binV_leq, binV_gtr, binV_geq, binV_seql, binV_sneq, binV_slss, binV_beql, binV_bneq, binV_peql, binV_pneq, add_add, add_none, Go.Al.add_zero, Nat.zero_add, Nat.add_zero, IfB_t, IfB_f, Gd_t, Gd_f, Ld_ptr, LdN_ptr, Option.isNone_some, Option.isNone_none, Option.isSome_some, Option.isSome_none, Bool.not_true, Bool.not_false, drew_cell, drew_heap, e4, hix, hc]
    refine (rgap_spec w7 hm (a := y) (b := next)).mono ?_
    rintro _ w7 ⟨rfl, rfl⟩
    by_cases hg : m / 4 < xGap m y next
    · have e6 : decide (m / 4 < xGap m y next) = true := by simpa using hg
      simp only [Pu_some, extV_0, extV_1, extV_2, extV_3, nilV_ptr, nilV_fn, faV_ptr, lenV_sl, lenS_s, capV_sl, pickV_t, pickV_f, unV_not, unV_neg, isB_t, isB_f, isB_u, binV_add, binV_sub, binV_mul, binV_eql, binV_neq, binV_lss, binV_leq, binV_gtr, binV_geq, binV_seql, binV_sneq, binV_slss, binV_beql, binV_bneq, binV_peql, binV_pneq, add_add, add_none, Go.Al.add_zero, Nat.zero_add, Nat.add_zero, IfB_t, IfB_f, Gd_t, Gd_f, Ld_ptr, LdN_ptr, Option.isNone_some, Option.isNone_none, Option.isSome_some, Option.isSome_none, Bool.not_true, Bool.not_false, drew_cell, drew_heap, e5, e6]
      exact aw
    · have e6 : decide (m / 4 < xGap m y next) = false := by simpa using hg
      simp only [Pu_some, extV_0, extV_1, extV_2, extV_3, nilV_ptr, nilV_fn, faV_ptr, lenV_sl, lenS_s, capV_sl, pickV_t, pickV_f, unV_not, unV_neg, isB_t, isB_f, isB_u, binV_add, binV_sub, binV_mul, binV_eql, binV_neq, binV_lss, binV_leq, binV_gtr, binV_geq, binV_seql, binV_sneq, binV_slss, binV_beql, binV_bneq, binV_peql, binV_pneq, add_add, add_none, Go.Al.add_zero, Nat.zero_add, Nat.add_zero, IfB_t, IfB_f, Gd_t, Gd_f, Ld_ptr, LdN_ptr, Option.isNone_some, Option.isNone_none, Option.isSome_some, Option.isSome_none, Bool.not_true, Bool.not_false, drew_cell, drew_heap, e5, e6, e3]
      refine ⟨⟨k + 1, rfl, by omega, ?_, (by trivial)⟩, by simp only [nth_0]; omega⟩
      rw [List.take_add_one, hxk]
      simp only [Option.toList_some, List.mem_append, List.mem_singleton]
      rintro x (hx | rfl)
      · exact hall x hx
      · exact ⟨h0, by omega⟩
  have hke : k = l.length := by omega
  subst hke
  have e2 : decide (((l.length : Nat) : Int) < (l.length : Int)) = false := by simp
  rw [List.take_length] at hall
  simp only [Pu_some, extV_0, extV_1, extV_2, extV_3, nilV_ptr, nilV_fn, faV_ptr, lenV_sl, lenS_s, capV_sl, pickV_t, pickV_f, unV_not, unV_neg, isB_t, isB_f, isB_u, binV_add, binV_sub, binV_mul, binV_eql, binV_neq, binV_lss, binV_leq, binV_gtr, binV_geq, binV_seql, binV_sneq, binV_slss, binV_beql, binV_bneq, binV_peql, binV_pneq, add_add, add_none, Go.Al.add_zero, Nat.zero_add, Nat.add_zero, IfB_t, IfB_f, Gd_t, Gd_f, Ld_ptr, LdN_ptr, Option.isNone_some, Option.isNone_none, Option.isSome_some, Option.isSome_none, Bool.not_true, Bool.not_false, drew_cell, drew_heap, hL.lenV, e2, q0', q1]
  refine (horizon_spec hm next (hr.keep hF6) (hs.keep hF6) (by omega)).mono ?_
  rintro _ w8 ⟨h, rfl, hh, hf8⟩
  rw [hl] at hh
  obtain ⟨hmem, hbef⟩ := hh
  replace hbef := hbef (near_first hne hnm hall)
  have hL8 := hL.keep hf8 (fun _ _ e => e)
  have hF8 := Fmf hF6 hf8
  refine ⟨fun vs w9 => ∃ k : Nat, vs = [.bool (decide (h ∈ l.take k)), iv k] ∧ k ≤ l.length ∧ w9 = w8, fun vs _ => (l.length - nth vs 1).toNat, ⟨0, by simp, by omega, rfl⟩, ?_⟩
  rintro _ w9 bv ik ⟨k, hvs, hk, rfl⟩
  cases hvs
  by_cases hlt2 : k < l.length
  · have e2 : decide ((k : Int) < (l.length : Int)) = true := by rw [decide_eq_true_eq]; omega
    have e3 : IntKind.i64.wrap ((k : Int) + 1) = ((k + 1 : Nat) : Int) := by rw [wrap_id] <;> omega
    have hxk : l[k]? = some l[k] := List.getElem?_eq_getElem hlt2
    generalize l[k] = y at hxk
    obtain ⟨ad, hix, _, hc⟩ := hL8.at1 (i := k) (x := iv y) (by rw [List.getElem?_map, hxk]; rfl) .i64
    have hm' : ∀ b : Bool, b = (decide (h ∈ l.take k) || decide (y = h)) → .bool b = Value.bool (decide (h ∈ l.take (k + 1))) := by
      intro b hb
      rw [hb, List.take_add_one, hxk]
      congr 1
      simp only [Option.toList_some, List.mem_append, List.mem_singleton]
      rw [← Bool.decide_or, decide_eq_decide]
      exact ⟨fun h => h.imp id Eq.symm, fun h => h.imp id Eq.symm⟩
    cases hb' : decide (h ∈ l.take k) with
    | true =>
      rw [hb'] at hm'
      simp only [Pu_some, extV_0, extV_1, extV_2, extV_3, nilV_ptr, nilV_fn, faV_ptr, lenV_sl, lenS_s, capV_sl, pickV_t, pickV_f, unV_not, unV_neg, isB_t, isB_f, isB_u, binV_add, binV_sub, binV_mul, binV_eql, binV_neq, binV_lss, binV_leq, binV_gtr, binV_geq, binV_seql, binV_sneq, binV_slss, binV_beql, binV_bneq, binV_peql, binV_pneq, add_add, add_none, Go.Al.add_zero, Nat.zero_add, Nat.add_zero, IfB_t, IfB_f, Gd_t, Gd_f, Ld_ptr, LdN_ptr, Option.isNone_some, Option.isNone_none, Option.isSome_some, Option.isSome_none, Bool.not_true, Bool.not_false, drew_cell, drew_heap, hL8.lenV, e2, hix, hc]
      refine (rbefore_spec w9 hm (a := y) (b := h)).mono ?_
      rintro _ w9 ⟨rfl, rfl⟩
      simp only [Pu_some, extV_0, extV_1, extV_2, extV_3, nilV_ptr, nilV_fn, faV_ptr, lenV_sl, lenS_s, capV_sl, pickV_t, pickV_f, unV_not, unV_neg, isB_t, isB_f, isB_u, binV_add, binV_sub, binV_mul, binV_eql, binV_neq, binV_lss, binV_leq, binV_gtr, binV_geq, binV_seql, binV_sneq, binV_slss, binV_beql, binV_bneq, binV_peql, binV_pneq, add_add, add_none, Go.Al.add_zero, Nat.zero_add, Nat.add_zero, IfB_t, IfB_f, Gd_t, Gd_f, Ld_ptr, LdN_ptr, Option.isNone_some, Option.isNone_none, Option.isSome_some, Option.isSome_none, Bool.not_true, Bool.not_false, drew_cell, drew_heap, hbef y (List.mem_of_getElem? hxk), e3]
      refine ⟨⟨k + 1, ?_, by omega, (by trivial)⟩, by simp only [nth_1]; omega⟩
      rw [← hm' true rfl]
    | false =>
      rw [hb'] at hm'
      simp only [Pu_some, extV_0, extV_1, extV_2, extV_3, nilV_ptr, nilV_fn, faV_ptr, lenV_sl, lenS_s, capV_sl, pickV_t, pickV_f, unV_not, unV_neg, isB_t, isB_f, isB_u, binV_add, binV_sub, binV_mul, binV_eql, binV_neq, binV_lss, binV_leq, binV_gtr, binV_geq, binV_seql, binV_sneq, binV_slss, binV_beql, binV_bneq, binV_peql, binV_pneq, add_add, add_none, Go.Al.add_zero, Nat.zero_add, Nat.add_zero, IfB_t, IfB_f, Gd_t, Gd_f, Ld_ptr, LdN_ptr, Option.isNone_some, Option.isNone_none, Option.isSome_some, Option.isSome_none, Bool.not_true, Bool.not_false, drew_cell, drew_heap, hL8.lenV, e2, hix, hc]
      refine (rbefore_spec w9 hm (a := y) (b := h)).mono ?_
      rintro _ w9 ⟨rfl, rfl⟩
      simp only [Pu_some, extV_0, extV_1, extV_2, extV_3, nilV_ptr, nilV_fn, faV_ptr, lenV_sl, lenS_s, capV_sl, pickV_t, pickV_f, unV_not, unV_neg, isB_t, isB_f, isB_u, binV_add, binV_sub, binV_mul, binV_eql, binV_neq, binV_lss, binV_leq, binV_gtr, binV_geq, binV_seql, binV_sneq, binV_slss, binV_beql, binV_bneq, binV_peql, binV_pneq, add_add, add_none, Go.Al.add_zero, Nat.zero_add, Nat.add_zero, IfB_t, IfB_f, Gd_t, Gd_f, Ld_ptr, LdN_ptr, Option.isNone_some, Option.isNone_none, Option.isSome_some, Option.isSome_none, Bool.not_true, Bool.not_false, drew_cell, drew_heap, hbef y (List.mem_of_getElem? hxk), e3]
      refine ⟨⟨k + 1, ?_, by omega, (by trivial)⟩, by simp only [nth_1]; omega⟩
      rw [hm' (y == h) (by rw [beq_dec, Bool.false_or])]
  have hke : k = l.length := by omega
  subst hke
  have e2' : decide (h ∈ l) = true := by simpa using hmem
  rw [List.take_length, e2']
  simp only [Pu_some, extV_0, extV_1, extV_2, extV_3, nilV_ptr, nilV_fn, faV_ptr, lenV_sl, lenS_s, capV_sl, pickV_t, pickV_f, unV_not, unV_neg, isB_t, isB_f, isB_u, binV_add, binV_sub, binV_mul, binV_eql, binV_neq, binV_lss, binV_leq, binV_gtr, binV_geq, binV_seql, binV_sneq, binV_slss, binV_beql, binV_bneq, binV_peql, binV_pneq, add_add, add_none, Go.Al.add_zero, Nat.zero_add, Nat.add_zero, IfB_t, IfB_f, Gd_t, Gd_f, Ld_ptr, LdN_ptr, Option.isNone_some, Option.isNone_none, Option.isSome_some, Option.isSome_none, Bool.not_true, Bool.not_false, drew_cell, drew_heap, hL8.lenV, e2]
  refine (awake_spec w9).mono ?_
  rintro _ w10 ⟨rfl, hf10⟩
  simp only [Pu_some, extV_0, extV_1, extV_2, extV_3, nilV_ptr, nilV_fn, faV_ptr, lenV_sl, lenS_s, capV_sl, pickV_t, pickV_f, unV_not, unV_neg, isB_t, isB_f, isB_u, binV_add, binV_sub, binV_mul, binV_eql, binV_neq, binV_lss, binV_leq, binV_gtr, binV_geq, binV_seql, binV_sneq, binV_slss, binV_beql, binV_bneq, binV_peql, binV_pneq, add_add, add_none, Go.Al.add_zero, Nat.zero_add, Nat.add_zero, IfB_t, IfB_f, Gd_t, Gd_f, Ld_ptr, LdN_ptr, Option.isNone_some, Option.isNone_none, Option.isSome_some, Option.isSome_none, Bool.not_true, Bool.not_false, drew_cell, drew_heap]
  exact ⟨(by trivial), Fmf hF8 hf10⟩

end Go.Proofs.Ythgdinjgdjiknaa
