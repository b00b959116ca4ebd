/- The horizon. -/
import Derived.Test.YthgdinjgdjiknaaSnapMade
namespace Go.Proofs.Ythgdinjgdjiknaa
open Go.Al Go.Proofs
set_option linter.unusedVariables false
set_option linter.unusedSimpArgs false
set_option linter.unusedSectionVars false
set_option maxRecDepth 100000

theorem E34 : ElemT Try.prog 34 3 1 8 := elemT_of Try.underlying34 (by kernel_rfl)
abbrev SnT := Int × List Int × Unit
def vSnap : Vw Try.prog 93 SnT := vStruct Try.underlying93 (fvCons rfl 1 (by kernel_rfl) vI (fvCons rfl 1 (by kernel_rfl) vInts fvNil)) (by kernel_rfl)
def vSnaps : Vw Try.prog 105 (List SnT) := vSlice Try.underlying105 (by kernel_rfl) vSnap
theorem snap_at {w : World} {v : Value} {L : List SnT} (h : SliceAs vSnap w v L) {i : Nat} {x : SnT} (hi : L[i]? = some x) :
    ∃ ad av, ixV 2 v (iv i) = some (.pointer (some ad)) ∧ w.cell? ad = some (iv x.1) ∧ w.cell? (ad.add 1) = some av ∧ SliceAs vI w av x.2.1 ∧ In x.1 := by
  obtain ⟨ad, cs', h1, h2, h3⟩ := h.at hi (c := 2) (by kernel_rfl) .i64
  obtain ⟨c1, c2, rfl, ⟨rfl, hw1⟩, c3, c4, rfl, ⟨av, rfl, hav⟩, h4⟩ := h2
  have h4' : c4 = [] := h4
  subst h4'
  refine ⟨ad, av, h1, ?_, h3 1 (by omega), hav, i64_of_wf hw1⟩
  have := h3 0 (by omega)
  rw [Go.Al.add_zero] at this; exact this

/-! ### slices.IndexFunc -/
theorem indexf_spec {w : World} {v f : Value} {l : List Int} (hl : CellsAt w v l.length 1 (l.map iv)) (p : Int → Bool)
    (hf : ∀ w', Fm (fun _ => False) w w' → ∀ x ∈ l, ∀ k : KV, (∀ w'', Fm (fun _ => False) w' w'' → k (.bool (p x)) w'') → ClV Try.prog f [iv x] w' k) :
    Cl Try.prog 90 [v, f] w fun r w' => ∃ i : Int, r = iv i ∧ Fm (fun _ => False) w w' ∧ ((0 ≤ i ∧ ∃ x, l[i.toNat]? = some x ∧ p x = true) ∨ (i = -1 ∧ ∀ x ∈ l, p x = false)) := by
  have hlt := hl.lt
  unfold maxLen at hlt
  refine c90 ?_; unfold T90
  simp only [Pu_some, extV_0, extV_1, extV_2, extV_3, nilV_ptr, nilV_fn, faV_ptr, lenV_sl, lenS_s, capV_sl, pickV_t, pickV_f, unV_not, unV_neg, isB_t, isB_f, isB_u, binV_add, binV_sub, binV_mul, binV_eql, binV_neq, binV_lss, binV_leq, binV_gtr, binV_geq, binV_seql, binV_sneq, binV_slss, binV_beql, binV_bneq, binV_peql, binV_pneq, add_add, add_none, Go.Al.add_zero, Nat.zero_add, Nat.add_zero, IfB_t, IfB_f, Gd_t, Gd_f, Ld_ptr, LdN_ptr, Option.isNone_some, Option.isNone_none, Option.isSome_some, Option.isSome_none, Bool.not_true, Bool.not_false, drew_cell, drew_heap, hl.lenV]
  refine ⟨fun vs w2 => ∃ k : Nat, vs = [iv k] ∧ k ≤ l.length ∧ (∀ x ∈ l.take k, p x = false) ∧ Fm (fun _ => False) w w2, fun vs _ => (l.length - nth vs 0).toNat, ⟨0, rfl, by omega, by simp, Fm.refl _ _⟩, ?_⟩
  rintro _ w2 ik ⟨k, hvs, hk, hno, hF⟩
  cases hvs
  by_cases hlt2 : k < l.length
  · have e1 : decide ((k : Int) < (l.length : Int)) = true := by rw [decide_eq_true_eq]; omega
    have e2 : IntKind.i64.wrap ((k : Int) + 1) = ((k + 1 : Nat) : Int) := by rw [wrap_id] <;> omega
    have hx : l[k]? = some l[k] := List.getElem?_eq_getElem hlt2
    have hmem : l[k] ∈ l := List.getElem_mem hlt2
    generalize l[k] = y at hx hmem
    obtain ⟨ad, hix, _, hc⟩ := (hl.keep hF (fun _ _ e => e)).at1 (i := k) (x := iv y) (by rw [List.getElem?_map, hx]; rfl) .i64
    simp only [Pu_some, extV_0, extV_1, extV_2, extV_3, nilV_ptr, nilV_fn, faV_ptr, lenV_sl, lenS_s, capV_sl, pickV_t, pickV_f, unV_not, unV_neg, isB_t, isB_f, isB_u, binV_add, binV_sub, binV_mul, binV_eql, binV_neq, binV_lss, binV_leq, binV_gtr, binV_geq, binV_seql, binV_sneq, binV_slss, binV_beql, binV_bneq, binV_peql, binV_pneq, add_add, add_none, Go.Al.add_zero, Nat.zero_add, Nat.add_zero, IfB_t, IfB_f, Gd_t, Gd_f, Ld_ptr, LdN_ptr, Option.isNone_some, Option.isNone_none, Option.isSome_some, Option.isSome_none, Bool.not_true, Bool.not_false, drew_cell, drew_heap, e1, hix, hc]
    refine hf w2 hF y hmem _ ?_
    intro w3 hf3
    cases hpy : p y with
    | true =>
      simp only [Pu_some, extV_0, extV_1, extV_2, extV_3, nilV_ptr, nilV_fn, faV_ptr, lenV_sl, lenS_s, capV_sl, pickV_t, pickV_f, unV_not, unV_neg, isB_t, isB_f, isB_u, binV_add, binV_sub, binV_mul, binV_eql, binV_neq, binV_lss, binV_leq, binV_gtr, binV_geq, binV_seql, binV_sneq, binV_slss, binV_beql, binV_bneq, binV_peql, binV_pneq, add_add, add_none, Go.Al.add_zero, Nat.zero_add, Nat.add_zero, IfB_t, IfB_f, Gd_t, Gd_f, Ld_ptr, LdN_ptr, Option.isNone_some, Option.isNone_none, Option.isSome_some, Option.isSome_none, Bool.not_true, Bool.not_false, drew_cell, drew_heap]
      exact ⟨k, (by trivial), Fmf hF hf3, .inl ⟨by omega, y, by simpa using hx, hpy⟩⟩
    | false =>
      simp only [Pu_some, extV_0, extV_1, extV_2, extV_3, nilV_ptr, nilV_fn, faV_ptr, lenV_sl, lenS_s, capV_sl, pickV_t, pickV_f, unV_not, unV_neg, isB_t, isB_f, isB_u, binV_add, binV_sub, binV_mul, binV_eql, binV_neq, binV_lss, binV_leq, binV_gtr, binV_geq, binV_seql, binV_sneq, binV_slss, binV_beql, binV_bneq, binV_peql, binV_pneq, add_add, add_none, Go.Al.add_zero, Nat.zero_add, Nat.add_zero, IfB_t, IfB_f, Gd_t, Gd_f, Ld_ptr, LdN_ptr, Option.isNone_some, Option.isNone_none, Option.isSome_some, Option.isSome_none, Bool.not_true, Bool.not_false, drew_cell, drew_heap, e2]
      refine ⟨⟨k + 1, rfl, by omega, ?_, Fmf hF hf3⟩, by simp only [nth_0]; omega⟩
      rw [List.take_add_one, hx]
      simp only [Option.toList_some, List.mem_append, List.mem_singleton]
      rintro x (h | rfl)
      · exact hno x h
      · exact hpy
  · have hke : k = l.length := by omega
    subst hke
    have e1 : decide (((l.length : Nat) : Int) < (l.length : Int)) = false := by simp
    rw [List.take_length] at hno
    simp only [Pu_some, extV_0, extV_1, extV_2, extV_3, nilV_ptr, nilV_fn, faV_ptr, lenV_sl, lenS_s, capV_sl, pickV_t, pickV_f, unV_not, unV_neg, isB_t, isB_f, isB_u, binV_add, binV_sub, binV_mul, binV_eql, binV_neq, binV_lss, binV_leq, binV_gtr, binV_geq, binV_seql, binV_sneq, binV_slss, binV_beql, binV_bneq, binV_peql, binV_pneq, add_add, add_none, Go.Al.add_zero, Nat.zero_add, Nat.add_zero, IfB_t, IfB_f, Gd_t, Gd_f, Ld_ptr, LdN_ptr, Option.isNone_some, Option.isNone_none, Option.isSome_some, Option.isSome_none, Bool.not_true, Bool.not_false, drew_cell, drew_heap, e1]
    exact ⟨-1, (by trivial), hF, .inr ⟨rfl, hno⟩⟩
theorem containsf_spec {w : World} {v f : Value} {l : List Int} (hl : CellsAt w v l.length 1 (l.map iv)) (p : Int → Bool)
    (hf : ∀ w', Fm (fun _ => False) w w' → ∀ x ∈ l, ∀ k : KV, (∀ w'', Fm (fun _ => False) w' w'' → k (.bool (p x)) w'') → ClV Try.prog f [iv x] w' k) :
    Cl Try.prog 92 [v, f] w fun r w' => r = .bool (l.any p) ∧ Fm (fun _ => False) w w' := by
  refine c92 ?_; unfold T92
  refine (indexf_spec hl p hf).mono ?_
  rintro _ w2 ⟨i, rfl, hF, h⟩
  rcases h with ⟨h0, x, hx, hp⟩ | ⟨rfl, hno⟩
  · have e1 : decide ((0 : Int) ≤ i) = true := by simpa using h0
    have e2 : l.any p = true := List.any_eq_true.2 ⟨x, List.mem_of_getElem? hx, hp⟩
    simp only [Pu_some, extV_0, extV_1, extV_2, extV_3, nilV_ptr, nilV_fn, faV_ptr, lenV_sl, lenS_s, capV_sl, pickV_t, pickV_f, unV_not, unV_neg, isB_t, isB_f, isB_u, binV_add, binV_sub, binV_mul, binV_eql, binV_neq, binV_lss, binV_leq, binV_gtr, binV_geq, binV_seql, binV_sneq, binV_slss, binV_beql, binV_bneq, binV_peql, binV_pneq, add_add, add_none, Go.Al.add_zero, Nat.zero_add, Nat.add_zero, IfB_t, IfB_f, Gd_t, Gd_f, Ld_ptr, LdN_ptr, Option.isNone_some, Option.isNone_none, Option.isSome_some, Option.isSome_none, Bool.not_true, Bool.not_false, drew_cell, drew_heap, e1, e2]
    exact ⟨(by trivial), hF⟩
  · have e1 : decide ((0 : Int) ≤ -1) = false := by decide
    have e2 : l.any p = false := by rw [List.any_eq_false]; intro x hx; simp [hno x hx]
    simp only [Pu_some, extV_0, extV_1, extV_2, extV_3, nilV_ptr, nilV_fn, faV_ptr, lenV_sl, lenS_s, capV_sl, pickV_t, pickV_f, unV_not, unV_neg, isB_t, isB_f, isB_u, binV_add, binV_sub, binV_mul, binV_eql, binV_neq, binV_lss, binV_leq, binV_gtr, binV_geq, binV_seql, binV_sneq, binV_slss, binV_beql, binV_bneq, binV_peql, binV_pneq, add_add, add_none, Go.Al.add_zero, Nat.zero_add, Nat.add_zero, IfB_t, IfB_f, Gd_t, Gd_f, Ld_ptr, LdN_ptr, Option.isNone_some, Option.isNone_none, Option.isSome_some, Option.isSome_none, Bool.not_true, Bool.not_false, drew_cell, drew_heap, e1, e2]
    exact ⟨(by trivial), hF⟩

/-- Those that a horizon counts. -/
def horL (next : Int) (running : List Int) (snaps : List SnT) : List Int := next :: (running ++ snaps.flatMap fun s => s.1 :: s.2.1)
theorem horL_take {next : Int} {running : List Int} {snaps : List SnT} {i : Nat} {s : SnT} (hi : snaps[i]? = some s) : horL next running (snaps.take (i + 1)) = horL next running (snaps.take i) ++ [s.1] ++ s.2.1 := by
  unfold horL
  rw [List.take_add_one, hi]
  simp
theorem horL_len {next : Int} {running : List Int} {snaps : List SnT} (i : Nat) : (horL next running (snaps.take i)).length ≤ (horL next running snaps).length := by
  have : (snaps.flatMap fun s => s.1 :: s.2.1) = ((snaps.take i).flatMap fun s => s.1 :: s.2.1) ++ ((snaps.drop i).flatMap fun s => s.1 :: s.2.1) := by
    rw [← List.flatMap_append, List.take_append_drop]
  unfold horL
  rw [this]
  simp only [List.length_cons, List.length_append]
  omega

/-- What a horizon is. -/
def IsHor (m : Int) (l : List Int) (h : Int) : Prop := h ∈ l ∧ ((∃ x ∈ l, ∀ y ∈ l, xBefore m y x = false) → ∀ y ∈ l, xBefore m y h = false)

set_option maxHeartbeats 1000000 in
theorem horizon_spec {w : World} {m : Int} (hm : In m) (next : Int) {rv sv : Value} {running : List Int} {snaps : List SnT} (hr : SliceAs vI w rv running) (hs : SliceAs vSnap w sv snaps) (hb : (horL next running snaps).length ≤ 1099511627776) :
    Cl Try.prog 44 [iv m, iv next, rv, sv] w fun r w' => ∃ h, r = iv h ∧ IsHor m (horL next running snaps) h ∧ Fm (fun _ => False) w w' := by
  have hslen := hs.len
  unfold maxLen at hslen
  have hone : ∀ l : List Int, ∀ u ∈ l.map iv, u.oneCell' = true := fun l u hu => by obtain ⟨x, _, rfl⟩ := List.mem_map.1 hu; rfl
  have hb0 : (1 + running.length) ≤ 1099511627776 := by
    have := horL_len (next := next) (running := running) (snaps := snaps) 0
    unfold horL at this hb
    simp at this hb
    omega
  refine c44 ?_; unfold T44
  refine New_any ?_
  intro x4 w1 hx4 hs1 hw1 hf1
  replace hw1 : w1.heap[x4]? = some (.cells #[iv m] 3) := hw1
  refine RunS_ok (bs34s next w1) ?_
  have ho2 := own_alloc (w := w1) (e := 3) (l := [iv next]) (by simp [maxLen]) (Nat.le_refl _)
  have hf2 := Fm.alloc (fun _ => False) w1 (.cells #[iv next] 3)
  replace ho2 : (w1.alloc (.cells #[iv next] 3)).ownsRow w1.heap.size 3 1 (.slice (some ⟨w1.heap.size, 0, none⟩) 1 1) 1 [iv next] := ho2
  generalize w1.alloc (.cells #[iv next] 3) = w2 at ho2 hf2
  have hrc := (ints_in hr).1
  have hz1 := hf1.size
  have hz2 := hf2.size
  obtain ⟨lv, w3, hr3, ho3, hf3⟩ := append_srcO E34 (by omega) ho2 (hrc.keep (Fmf hf1 hf2) (fun _ _ e => e)) (hone _) 34 (by unfold maxLen; omega) (by omega) hz2
  refine RunS_ok hr3 ?_
  refine New_any ?_
  intro x9 w4 hx9 hs4 hw4 hf4
  have hz3 := hf3.size
  have hl3 := own_lt ho3
  refine St_blk hw4 (by simp) (own_one ho3) ?_
  intro w5 hw5 hs5 hf5
  replace hw5 : w5.heap[x9]? = some (.cells #[lv] 34) := hw5
  have ho5 := own_keep (own_keep ho3 hf4 (fun _ _ _ _ e => e)) hf5 (fun k h1 h2 h3 e => by have := hl3 k h3; omega)
  have hx4l := lt_of_heap hw1
  have hw1_2 := hf2.heap hw1 (fun e => e)
  have hw1_3 := hf3.heap hw1_2 (fun e => by have := own_lt ho2 x4 e; omega)
  have hw1_5 := hf5.heap (hf4.heap hw1_3 (fun e => e)) (show ¬ x4 = x9 by omega)
  have hF2 := Fmf hf1 hf2
  have hF3 : Fm (fun _ => False) w w3 := Fm.own hF2 hf3 (fun x e => by have := own_lt ho2 x e; omega)
  have hF5 : Fm (fun _ => False) w w5 := Fm.own (Fmf hF3 hf4) hf5 (by rintro x rfl; omega)
  have hz5 := hF5.size
  have hx9l := lt_of_heap hw5
  simp only [Pu_some, extV_0, extV_1, extV_2, extV_3, nilV_ptr, nilV_fn, faV_ptr, lenV_sl, lenS_s, capV_sl, pickV_t, pickV_f, unV_not, unV_neg, isB_t, isB_f, isB_u, binV_add, binV_sub, binV_mul, binV_eql, binV_neq, binV_lss, binV_leq, binV_gtr, binV_geq, binV_seql, binV_sneq, binV_slss, binV_beql, binV_bneq, binV_peql, binV_pneq, add_add, add_none, Go.Al.add_zero, Nat.zero_add, Nat.add_zero, IfB_t, IfB_f, Gd_t, Gd_f, Ld_ptr, LdN_ptr, Option.isNone_some, Option.isNone_none, Option.isSome_some, Option.isSome_none, Bool.not_true, Bool.not_false, drew_cell, drew_heap, hs.lenV]
  have hinit : [iv next] ++ running.map iv = (horL next running (snaps.take 0)).map iv := by simp [horL]
  have hinl : 1 + running.length = (horL next running (snaps.take 0)).length := by simp [horL]; omega
  rw [hinit, hinl] at ho5
  refine ⟨fun vs w6 => ∃ (i : Nat) (lv : Value), vs = [iv i] ∧ i ≤ snaps.length ∧ w6.heap[x9]? = some (.cells #[lv] 34) ∧ w6.ownsRow w1.heap.size 3 1 lv (horL next running (snaps.take i)).length ((horL next running (snaps.take i)).map iv) ∧ Fm (fun b => w1.heap.size ≤ b) w5 w6, fun vs _ => (snaps.length - nth vs 0).toNat, ⟨0, lv, rfl, by omega, hw5, ho5, Fm.refl _ _⟩, ?_⟩
  clear ho5 ho3 hl3 hr3 hf5 hw5
  rintro _ w6 iv_ ⟨i, lv, hvs, hi, hw6, ho6, hf6⟩
  cases hvs
  have hF6 : Fm (fun _ => False) w w6 := Fm.own hF5 hf6 (by intro x hx; omega)
  have hz6 := hf6.size
  have hw1_6 := hf6.heap hw1_5 (by omega)
  by_cases hlt : i < snaps.length
  · have e1 : decide ((i : Int) < (snaps.length : Int)) = true := by rw [decide_eq_true_eq]; omega
    have e2 : IntKind.i64.wrap ((i : Int) + 1) = ((i + 1 : Nat) : Int) := by rw [wrap_id] <;> omega
    have hx : snaps[i]? = some snaps[i] := List.getElem?_eq_getElem hlt
    generalize snaps[i] = s at hx
    have hlen1 := horL_len (next := next) (running := running) (snaps := snaps) (i + 1)
    have htk := horL_take (next := next) (running := running) hx
    rw [htk] at hlen1
    simp only [List.length_append, List.length_singleton] at hlen1
    obtain ⟨ad, av, hix, q1, q2, hav, hsin⟩ := snap_at hs hx
    replace q1 := hF6.cell' q1 (fun e => e)
    replace q2 := hF6.cell' q2 (fun e => e)
    simp only [Pu_some, extV_0, extV_1, extV_2, extV_3, nilV_ptr, nilV_fn, faV_ptr, lenV_sl, lenS_s, capV_sl, pickV_t, pickV_f, unV_not, unV_neg, isB_t, isB_f, isB_u, binV_add, binV_sub, binV_mul, binV_eql, binV_neq, binV_lss, binV_leq, binV_gtr, binV_geq, binV_seql, binV_sneq, binV_slss, binV_beql, binV_bneq, binV_peql, binV_pneq, add_add, add_none, Go.Al.add_zero, Nat.zero_add, Nat.add_zero, IfB_t, IfB_f, Gd_t, Gd_f, Ld_ptr, LdN_ptr, Option.isNone_some, Option.isNone_none, Option.isSome_some, Option.isSome_none, Bool.not_true, Bool.not_false, drew_cell, drew_heap, e1, hix, cellsV_2 q1 q2]
    refine New_any ?_
    intro x11 w7 hx11 hs7 hw7 hf7
    obtain ⟨hac0, _, _⟩ := ints_in hav
    have hblt : s.2.1.map iv ≠ [] → ∀ g, blockOf av = some g → g < w1.heap.size := fun h1 g h2 => by have := hac0.blt h1 g h2; omega
    have hac := hac0.keep hF6 (fun _ _ e => e)
    refine St_all (us := #[iv s.1, av]) hw7 rfl rfl (by intro u hu; simp at hu; rcases hu with rfl | rfl; rfl; exact CellsAt.one hac) ?_
    intro w8 hw8 hs8 hf8
    have hfd := Fm.drew (fun _ => False) w8
    have hF68 : Fm (fun _ => False) w6 w8 := Fm.own hf7 hf8 (by rintro x rfl; omega)
    have hFd := Fmf hF68 hfd
    have k9 := hFd.heap hw6 (fun e => e)
    have k11 := hfd.heap hw8 (fun e => e)
    have kx4 := hFd.heap hw1_6 (fun e => e)
    have hod := own_keep ho6 hFd (fun _ _ _ _ e => e)
    have s11 : w8.cell? ⟨x11, 0, none⟩ = some (iv s.1) := by rw [cell_at hw8]; rfl
    have s12 : w8.cell? ⟨x11, 1, none⟩ = some av := by rw [cell_at hw8]; rfl
    have hacd := hac.keep hFd (fun _ _ e => e)
    have hzd := hFd.size
    have hx9l6 := lt_of_heap hw6
    generalize w8.drew = w9 at *
    have d11 : w9.cell? ⟨x11, 0, none⟩ = some (iv s.1) := by rw [cell_at k11]; rfl
    refine ⟨fun w' => w'.heap[x9]? = some (.cells #[lv] 34) ∧ w'.heap[x11]? = some (.cells #[iv s.1, av] 93), ⟨k9, k11⟩, lv, fun w' hw' => ?_, ?_⟩
    · have : w'.cell? ⟨x9, 0, none⟩ = some lv := by rw [cell_at hw'.1]; rfl
      simp only [Pu_some, extV_0, extV_1, extV_2, extV_3, nilV_ptr, nilV_fn, faV_ptr, lenV_sl, lenS_s, capV_sl, pickV_t, pickV_f, unV_not, unV_neg, isB_t, isB_f, isB_u, binV_add, binV_sub, binV_mul, binV_eql, binV_neq, binV_lss, binV_leq, binV_gtr, binV_geq, binV_seql, binV_sneq, binV_slss, binV_beql, binV_bneq, binV_peql, binV_pneq, add_add, add_none, Go.Al.add_zero, Nat.zero_add, Nat.add_zero, IfB_t, IfB_f, Gd_t, Gd_f, Ld_ptr, LdN_ptr, Option.isNone_some, Option.isNone_none, Option.isSome_some, Option.isSome_none, Bool.not_true, Bool.not_false, drew_cell, drew_heap, this]; exact ⟨(by trivial), (by trivial)⟩
    simp only [Pu_some, extV_0, extV_1, extV_2, extV_3, nilV_ptr, nilV_fn, faV_ptr, lenV_sl, lenS_s, capV_sl, pickV_t, pickV_f, unV_not, unV_neg, isB_t, isB_f, isB_u, binV_add, binV_sub, binV_mul, binV_eql, binV_neq, binV_lss, binV_leq, binV_gtr, binV_geq, binV_seql, binV_sneq, binV_slss, binV_beql, binV_bneq, binV_peql, binV_pneq, add_add, add_none, Go.Al.add_zero, Nat.zero_add, Nat.add_zero, IfB_t, IfB_f, Gd_t, Gd_f, Ld_ptr, LdN_ptr, Option.isNone_some, Option.isNone_none, Option.isSome_some, Option.isSome_none, Bool.not_true, Bool.not_false, drew_cell, drew_heap, d11, s11, true_and]
    refine ⟨av, fun w' hw' => ?_, ?_⟩
    · have : w'.cell? ⟨x11, 1, none⟩ = some av := by rw [cell_at hw'.2]; rfl
      simp only [Pu_some, extV_0, extV_1, extV_2, extV_3, nilV_ptr, nilV_fn, faV_ptr, lenV_sl, lenS_s, capV_sl, pickV_t, pickV_f, unV_not, unV_neg, isB_t, isB_f, isB_u, binV_add, binV_sub, binV_mul, binV_eql, binV_neq, binV_lss, binV_leq, binV_gtr, binV_geq, binV_seql, binV_sneq, binV_slss, binV_beql, binV_bneq, binV_peql, binV_pneq, add_add, add_none, Go.Al.add_zero, Nat.zero_add, Nat.add_zero, IfB_t, IfB_f, Gd_t, Gd_f, Ld_ptr, LdN_ptr, Option.isNone_some, Option.isNone_none, Option.isSome_some, Option.isSome_none, Bool.not_true, Bool.not_false, drew_cell, drew_heap, this]; exact ⟨(by trivial), (by trivial)⟩
    refine RunS_ok (bs34s s.1 w9) ?_
    have hf10 := Fm.alloc (fun _ => False) w9 (.cells ([s.1].map iv).toArray 3)
    have hc10 := new_cells [s.1] (by simp) w9 3
    have e3 : (w9.alloc (.cells #[iv s.1] 3)) = w9.alloc (.cells ([s.1].map iv).toArray 3) := rfl
    rw [e3]
    generalize w9.alloc (.cells ([s.1].map iv).toArray 3) = w10 at hf10 hc10
    refine ⟨⟨hf10.heap k9 (fun e => e), hf10.heap k11 (fun e => e)⟩, ?_⟩
    have ho10 := own_keep hod hf10 (fun _ _ _ _ e => e)
    have hz10 := hf10.size
    obtain ⟨lv2, w11, hr11, ho11, hf11⟩ := append_srcO E34 (by omega) ho10 hc10 (hone _) 34 (by unfold maxLen; simp; omega) (by simp; omega) (by omega)
    refine RunS_ok hr11 ?_
    have n9 := own_neB ho10 (hf10.heap k9 (fun e => e)) (by decide)
    have n11 := own_neB ho10 (hf10.heap k11 (fun e => e)) (by decide)
    have k9' := hf11.heap (hf10.heap k9 (fun e => e)) n9
    have k11' := hf11.heap (hf10.heap k11 (fun e => e)) n11
    refine ⟨⟨k9', k11'⟩, ?_⟩
    have hl10 := own_lt ho10
    have hF6_11 : Fm (fun b => w1.heap.size ≤ b) w6 w11 := (Fmf hFd hf10).trans hf11 (fun _ _ e => e.elim) (fun x _ e => (hl10 x e).1)
    have hac11 : CellsAt w11 av s.2.1.length 1 (s.2.1.map iv) :=
      (hac.keep (Fmf hFd hf10) (fun _ _ e => e)).keepAny hf11 (fun hne g hg e => by have := (hl10 g e).1; have := hblt hne g hg; omega)
    have hz11 := hf11.size
    obtain ⟨lv3, w12, hr12, ho12, hf12⟩ := append_srcO E34 (by omega) ho11 hac11 (hone _) 34 (by unfold maxLen; simp; omega) (by simp; omega) (by omega)
    refine RunS_ok hr12 ?_
    have n9' := own_neB ho11 k9' (by decide)
    have hl11 := own_lt ho11
    have k9'' := hf12.heap k9' n9'
    refine St_blk k9'' (by simp) (own_one ho12) ?_
    intro w13 hw13 hs13 hf13
    have n9'' := own_neB ho12 k9'' (by decide)
    have ho13 := own_keep ho12 hf13 (fun k _ _ h e => n9'' (by rw [h, e]))
    have hF12 : Fm (fun b => w1.heap.size ≤ b) w6 w12 := hF6_11.trans hf12 (fun _ _ e => e) (fun x _ e => (hl11 x e).1)
    have hF13 : Fm (fun b => w1.heap.size ≤ b) w6 w13 := hF12.trans hf13 (fun _ _ e => e) (fun x _ e => by omega)
    simp only [Pu_some, extV_0, extV_1, extV_2, extV_3, nilV_ptr, nilV_fn, faV_ptr, lenV_sl, lenS_s, capV_sl, pickV_t, pickV_f, unV_not, unV_neg, isB_t, isB_f, isB_u, binV_add, binV_sub, binV_mul, binV_eql, binV_neq, binV_lss, binV_leq, binV_gtr, binV_geq, binV_seql, binV_sneq, binV_slss, binV_beql, binV_bneq, binV_peql, binV_pneq, add_add, add_none, Go.Al.add_zero, Nat.zero_add, Nat.add_zero, IfB_t, IfB_f, Gd_t, Gd_f, Ld_ptr, LdN_ptr, Option.isNone_some, Option.isNone_none, Option.isSome_some, Option.isSome_none, Bool.not_true, Bool.not_false, drew_cell, drew_heap, e2]
    refine ⟨⟨i + 1, lv3, rfl, by omega, hw13, ?_, hf6.trans hF13 (fun _ _ e => e) (fun _ _ e => e)⟩, by simp only [nth_0]; omega⟩
    rw [htk]
    simp only [List.map_append, List.length_append, List.length_singleton]
    exact ho13
  · have hie : i = snaps.length := by omega
    subst hie
    have e1 : decide (((snaps.length : Nat) : Int) < (snaps.length : Int)) = false := by simp
    rw [List.take_length] at ho6
    have c9 : w6.cell? ⟨x9, 0, none⟩ = some lv := by rw [cell_at hw6]; rfl
    simp only [Pu_some, extV_0, extV_1, extV_2, extV_3, nilV_ptr, nilV_fn, faV_ptr, lenV_sl, lenS_s, capV_sl, pickV_t, pickV_f, unV_not, unV_neg, isB_t, isB_f, isB_u, binV_add, binV_sub, binV_mul, binV_eql, binV_neq, binV_lss, binV_leq, binV_gtr, binV_geq, binV_seql, binV_sneq, binV_slss, binV_beql, binV_bneq, binV_peql, binV_pneq, add_add, add_none, Go.Al.add_zero, Nat.zero_add, Nat.add_zero, IfB_t, IfB_f, Gd_t, Gd_f, Ld_ptr, LdN_ptr, Option.isNone_some, Option.isNone_none, Option.isSome_some, Option.isSome_none, Bool.not_true, Bool.not_false, drew_cell, drew_heap, e1, c9]
    have hL := CellsAt.of_own ho6
    have hne : horL next running snaps ≠ [] := by simp [horL]
    generalize horL next running snaps = l at hL hb hne
    refine (indexf_spec hL (fun x => !(l.any fun y => xBefore m y x)) ?_).mono ?_
    · intro w7 hf7 x hxl k hk
      refine ClV_func (by kernel_rfl) ?_
      simp only [Pu_some, extV_0, extV_1, extV_2, extV_3, nilV_ptr, nilV_fn, faV_ptr, lenV_sl, lenS_s, capV_sl, pickV_t, pickV_f, unV_not, unV_neg, isB_t, isB_f, isB_u, binV_add, binV_sub, binV_mul, binV_eql, binV_neq, binV_lss, binV_leq, binV_gtr, binV_geq, binV_seql, binV_sneq, binV_slss, binV_beql, binV_bneq, binV_peql, binV_pneq, add_add, add_none, Go.Al.add_zero, Nat.zero_add, Nat.add_zero, IfB_t, IfB_f, Gd_t, Gd_f, Ld_ptr, LdN_ptr, Option.isNone_some, Option.isNone_none, Option.isSome_some, Option.isSome_none, Bool.not_true, Bool.not_false, drew_cell, drew_heap, List.nil_append, List.cons_append]
      refine c91 ?_; unfold T91
      refine New_any ?_
      intro x3 w8 hx3 hs8 hw8 hf8
      replace hw8 : w8.heap[x3]? = some (.cells #[iv x] 3) := hw8
      have hF8 := Fmf hf7 hf8
      have c9' : w8.cell? ⟨x9, 0, none⟩ = some lv := by rw [cell_at (hF8.heap hw6 (fun e => e))]; rfl
      simp only [Pu_some, extV_0, extV_1, extV_2, extV_3, nilV_ptr, nilV_fn, faV_ptr, lenV_sl, lenS_s, capV_sl, pickV_t, pickV_f, unV_not, unV_neg, isB_t, isB_f, isB_u, binV_add, binV_sub, binV_mul, binV_eql, binV_neq, binV_lss, binV_leq, binV_gtr, binV_geq, binV_seql, binV_sneq, binV_slss, binV_beql, binV_bneq, binV_peql, binV_pneq, add_add, add_none, Go.Al.add_zero, Nat.zero_add, Nat.add_zero, IfB_t, IfB_f, Gd_t, Gd_f, Ld_ptr, LdN_ptr, Option.isNone_some, Option.isNone_none, Option.isSome_some, Option.isSome_none, Bool.not_true, Bool.not_false, drew_cell, drew_heap, c9']
      refine (containsf_spec (hL.keep hF8 (fun _ _ e => e)) (fun y => xBefore m y x) ?_).mono ?_
      · intro w9 hf9 y hyl k' hk'
        refine ClV_func (by kernel_rfl) ?_
        simp only [Pu_some, extV_0, extV_1, extV_2, extV_3, nilV_ptr, nilV_fn, faV_ptr, lenV_sl, lenS_s, capV_sl, pickV_t, pickV_f, unV_not, unV_neg, isB_t, isB_f, isB_u, binV_add, binV_sub, binV_mul, binV_eql, binV_neq, binV_lss, binV_leq, binV_gtr, binV_geq, binV_seql, binV_sneq, binV_slss, binV_beql, binV_bneq, binV_peql, binV_pneq, add_add, add_none, Go.Al.add_zero, Nat.zero_add, Nat.add_zero, IfB_t, IfB_f, Gd_t, Gd_f, Ld_ptr, LdN_ptr, Option.isNone_some, Option.isNone_none, Option.isSome_some, Option.isSome_none, Bool.not_true, Bool.not_false, drew_cell, drew_heap, List.nil_append, List.cons_append]
        refine c93 ?_; unfold T93
        have a1 : w9.cell? ⟨x4, 0, none⟩ = some (iv m) := by rw [cell_at ((Fmf hF8 hf9).heap hw1_6 (fun e => e))]; rfl
        have a2 : w9.cell? ⟨x3, 0, none⟩ = some (iv x) := by rw [cell_at (hf9.heap hw8 (fun e => e))]; rfl
        simp only [Pu_some, extV_0, extV_1, extV_2, extV_3, nilV_ptr, nilV_fn, faV_ptr, lenV_sl, lenS_s, capV_sl, pickV_t, pickV_f, unV_not, unV_neg, isB_t, isB_f, isB_u, binV_add, binV_sub, binV_mul, binV_eql, binV_neq, binV_lss, binV_leq, binV_gtr, binV_geq, binV_seql, binV_sneq, binV_slss, binV_beql, binV_bneq, binV_peql, binV_pneq, add_add, add_none, Go.Al.add_zero, Nat.zero_add, Nat.add_zero, IfB_t, IfB_f, Gd_t, Gd_f, Ld_ptr, LdN_ptr, Option.isNone_some, Option.isNone_none, Option.isSome_some, Option.isSome_none, Bool.not_true, Bool.not_false, drew_cell, drew_heap, a1, a2]
        refine (before_spec w9 hm).mono ?_
        rintro _ w10 ⟨rfl, hf10⟩
        exact hk' w10 hf10
      · rintro _ w10 ⟨rfl, hf10⟩
        simp only [Pu_some, extV_0, extV_1, extV_2, extV_3, nilV_ptr, nilV_fn, faV_ptr, lenV_sl, lenS_s, capV_sl, pickV_t, pickV_f, unV_not, unV_neg, isB_t, isB_f, isB_u, binV_add, binV_sub, binV_mul, binV_eql, binV_neq, binV_lss, binV_leq, binV_gtr, binV_geq, binV_seql, binV_sneq, binV_slss, binV_beql, binV_bneq, binV_peql, binV_pneq, add_add, add_none, Go.Al.add_zero, Nat.zero_add, Nat.add_zero, IfB_t, IfB_f, Gd_t, Gd_f, Ld_ptr, LdN_ptr, Option.isNone_some, Option.isNone_none, Option.isSome_some, Option.isSome_none, Bool.not_true, Bool.not_false, drew_cell, drew_heap]
        exact hk w10 (Fmf hf8 hf10)
    · rintro _ w7 ⟨i, rfl, hf7, hi⟩
      have c9' : w7.cell? ⟨x9, 0, none⟩ = some lv := by rw [cell_at (hf7.heap hw6 (fun e => e))]; rfl
      have hfold : foldV0 max2V [Value.int .i64 0, iv i] = some (iv (max 0 i)) := by
        have : foldV0 max2V [Value.int .i64 0, iv i] = some (iv (if i > 0 then i else 0)) := rfl
        rw [this]
        congr 2
        split <;> omega
      have hL7 := hL.keep hf7 (fun _ _ e => e)
      obtain ⟨n, hn⟩ := Int.eq_ofNat_of_zero_le (show 0 ≤ max 0 i by omega)
      have hnn : n = i.toNat ∨ i = -1 ∧ n = 0 := by rcases hi with ⟨h, _⟩ | ⟨h, _⟩ <;> omega
      have hlpos := List.length_pos_iff.2 hne
      have hget : ∃ h, l[n]? = some h := by
        rcases hi with ⟨h0, x, hx, _⟩ | ⟨rfl, _⟩
        · rcases hnn with rfl | ⟨h1, _⟩
          · exact ⟨x, hx⟩
          · omega
        · rcases hnn with h1 | ⟨_, rfl⟩
          · simp at h1; subst h1; exact ⟨_, List.getElem?_eq_getElem hlpos⟩
          · exact ⟨_, List.getElem?_eq_getElem hlpos⟩
      obtain ⟨h, hh⟩ := hget
      obtain ⟨ad, hix, _, hc⟩ := hL7.at1 (i := n) (x := iv h) (by rw [List.getElem?_map, hh]; rfl) .i64
      simp only [Pu_some, extV_0, extV_1, extV_2, extV_3, nilV_ptr, nilV_fn, faV_ptr, lenV_sl, lenS_s, capV_sl, pickV_t, pickV_f, unV_not, unV_neg, isB_t, isB_f, isB_u, binV_add, binV_sub, binV_mul, binV_eql, binV_neq, binV_lss, binV_leq, binV_gtr, binV_geq, binV_seql, binV_sneq, binV_slss, binV_beql, binV_bneq, binV_peql, binV_pneq, add_add, add_none, Go.Al.add_zero, Nat.zero_add, Nat.add_zero, IfB_t, IfB_f, Gd_t, Gd_f, Ld_ptr, LdN_ptr, Option.isNone_some, Option.isNone_none, Option.isSome_some, Option.isSome_none, Bool.not_true, Bool.not_false, drew_cell, drew_heap, c9', hfold, hn, hix, hc]
      refine ⟨h, (by trivial), ⟨List.mem_of_getElem? hh, ?_⟩, Fmf hF6 hf7⟩
      rintro ⟨x, hxl, hx⟩ y hy
      rcases hi with ⟨h0, x', hx', hp⟩ | ⟨rfl, hno⟩
      · have : n = i.toNat := by rcases hnn with h1 | ⟨h1, _⟩ <;> omega
        subst this
        rw [hx'] at hh
        cases hh
        simp only [Bool.not_eq_true', List.any_eq_false, Bool.not_eq_true] at hp
        exact hp y hy
      · have := hno x hxl
        simp only [Bool.not_eq_false', List.any_eq_true] at this
        obtain ⟨y', hy', h2⟩ := this
        rw [hx y' hy'] at h2; cases h2

end Go.Proofs.Ythgdinjgdjiknaa
