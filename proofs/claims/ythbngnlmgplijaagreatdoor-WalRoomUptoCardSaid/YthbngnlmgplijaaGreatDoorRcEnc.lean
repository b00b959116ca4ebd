/- A record's bytes, by the program: its numbers, its body, what is wrong with it. -/
import Derived.Test.YthbngnlmgplijaaGreatDoorRcMem
namespace Go.Proofs.YthbngnlmgplijaaGreatDoor
open Go.Al Go.Proofs
set_option linter.unusedVariables false
set_option linter.unusedSimpArgs false
set_option linter.unusedSectionVars false
set_option maxRecDepth 100000

theorem iv_one (l : List Int) : ∀ u ∈ l.map iv, u.oneCell' = true := by
  intro u hu
  obtain ⟨n, _, rfl⟩ := List.mem_map.1 hu
  rfl
theorem row_src {w : World} {b0 : Nat} {lv v : Value} {L ns : List Int} (ho : w.ownsRow b0 3 1 lv L.length (L.map iv)) (hc : CellsAt w v ns.length 1 (ns.map iv)) (hl : L.length + ns.length ≤ 100000000) (hb : b0 ≤ w.heap.size) :
    ∃ v' w', (Builtin.append_ #[23, 23] 23 #[lv, v]).run Tryz.prog w = .ok v' w' ∧ w'.ownsRow b0 3 1 v' (L ++ ns).length ((L ++ ns).map iv) ∧ Fm (fun y => b0 ≤ y) w w' := by
  obtain ⟨v', w', hr, ho', hf⟩ := append_srcO E47 (by omega) ho hc (iv_one ns) 23 (by unfold maxLen; omega) (by omega) hb
  refine ⟨v', w', hr, ?_, hf.mono (fun y _ e => (own_lt ho y e).1)⟩
  rw [List.length_append, List.map_append]; exact ho'
theorem row_lit {w : World} {b0 n : Nat} {lv : Value} {L ns : List Int} {items : Array (Nat × Value)} (ho : w.ownsRow b0 3 1 lv L.length (L.map iv)) (hbs : (Instr.buildSlice 23 n items).run Tryz.prog w = .ok (.slice (some ⟨w.heap.size, 0, none⟩) n n) (w.alloc (.cells (ns.map iv).toArray 3))) (hn : ns.length = n) (hl : L.length + n ≤ 100000000) (hb : b0 ≤ w.heap.size) {k : KV}
    (hk : ∀ v' w', w'.ownsRow b0 3 1 v' (L ++ ns).length ((L ++ ns).map iv) → Fm (fun y => b0 ≤ y) w w' → k v' w') : RunS Tryz.prog (Instr.buildSlice 23 n items) w fun t w1 => RunS Tryz.prog (Builtin.append_ #[23, 23] 23 #[lv, t]) w1 k := by
  refine RunS_ok hbs ?_
  subst hn
  have hf := Fm.alloc (fun _ => False) w (.cells (ns.map iv).toArray 3)
  have hnew := own_new (w := w) (e := 3) (sz := 1) (base := w.heap.size) (n := ns.length) (l := ns.map iv) (by simp) (Nat.le_refl _) (by unfold maxLen; omega)
  have ho1 := own_keep ho hf (fun _ _ _ _ e => e)
  have hz := hf.size
  generalize w.alloc (.cells (ns.map iv).toArray 3) = w1 at hf hnew ho1 hz
  obtain ⟨v', w', hr, ho', hf'⟩ := row_src ho1 (CellsAt.of_own hnew) hl (by omega)
  exact RunS_ok hr (hk v' w' ho' ((hf.mono (fun _ _ e => e.elim)).trans hf' (fun _ _ e => e) (fun _ _ e => e)))

set_option maxHeartbeats 8000000 in
theorem numbers_spec {w : World} {cs : Array Value} {r : Rc} (h : RcAs w cs r) : Cl Tryz.prog 156 [.agg cs] w fun v w' => w'.ownsRow w.heap.size 3 1 v (rNums r).length ((rNums r).map iv) ∧ Fm (fun _ => False) w w' := by
  obtain ⟨vs, vm, vi, vp, vt, hcs, _, hs, hm, hi, hp, ht⟩ := h.ex
  have hbulk := h.bulk
  refine c156 ?_; unfold T156
  refine New_any ?_
  intro x1 w1 hx1 hs1 hw1 hf1
  have hR1 : RB w1 x1 r vs vm vi vp vt := ⟨by rw [← hcs]; exact hw1⟩
  have hz1 := hf1.size
  simp only [RS0, RS1, RS2, RS3, RS4, RS5, hR1.c0, hR1.c1, hR1.c2, hR1.c4, hR1.c5, hR1.c6, hR1.c7, hR1.c8, hR1.c9]
  refine RunS_ok (bs47_9 _ _ _ _ _ _ _ _ _ _) ?_
  have hf2 := Fm.alloc (fun _ => False) w1 (.cells ([r.lsn, r.prev, r.next, r.redo, r.xid, r.page, r.slot, r.old, r.new].map iv).toArray 3)
  have ho2 := own_new (w := w1) (e := 3) (sz := 1) (base := w1.heap.size) (n := 9) (l := [r.lsn, r.prev, r.next, r.redo, r.xid, r.page, r.slot, r.old, r.new].map iv) (by simp) (Nat.le_refl _) (by simp [maxLen])
  have hL : rNums r = [r.lsn, r.prev, r.next, r.redo, r.xid, r.page, r.slot, r.old, r.new] ++ r.slots ++ r.more ++ r.imgs.map (·.1) ++ prs r.pages ++ prs r.txns := rfl
  have h9 : ([r.lsn, r.prev, r.next, r.redo, r.xid, r.page, r.slot, r.old, r.new] : List Int).length = 9 := rfl
  rw [hL]
  replace ho2 : (w1.alloc (.cells ([r.lsn, r.prev, r.next, r.redo, r.xid, r.page, r.slot, r.old, r.new].map iv).toArray 3)).ownsRow w1.heap.size 3 1 (.slice (some ⟨w1.heap.size, 0, none⟩) 9 9) ([r.lsn, r.prev, r.next, r.redo, r.xid, r.page, r.slot, r.old, r.new] : List Int).length ([r.lsn, r.prev, r.next, r.redo, r.xid, r.page, r.slot, r.old, r.new].map iv) := ho2
  generalize w1.alloc (.cells ([r.lsn, r.prev, r.next, r.redo, r.xid, r.page, r.slot, r.old, r.new].map iv).toArray 3) = w2 at hf2 ho2
  generalize ([r.lsn, r.prev, r.next, r.redo, r.xid, r.page, r.slot, r.old, r.new] : List Int) = L9 at ho2 h9
  have hf3 := Fm.drew (fun _ => False) w2
  have hR2 := hR1.keep hf2 (fun e => e)
  have hR3 := hR2.keep hf3 (fun e => e)
  refine ⟨fun w' => w'.cell? ⟨x1, 12, none⟩ = some vm, hR3.c12, ?_⟩
  simp only [RS0, RS1, RS2, RS3, RS4, RS5, hR2.c11, hR3.c11, true_and]
  refine ⟨vm, fun w9 h9 => ?_, ?_⟩
  · simp only [RS0, RS1, RS2, RS3, RS4, RS5, h9]; trivial
  have ho3 := own_keep ho2 hf3 (fun _ _ _ _ e => e)
  have hF3 := Fmf hf2 hf3
  generalize w2.drew = w3 at hf3 hR3 ho3 hF3
  have hz3 := hF3.size
  obtain ⟨v4, w4, hr4, ho4, hf4⟩ := row_src ho3 (hs.keep (Fmf hf1 hF3) (fun _ _ e => e)) (by omega) hz3
  have hx1lt := hR1.lt
  have hF4 : Fm (fun _ => False) w1 w4 := Fm.own hF3 hf4 (fun y e => e)
  have hR4 := hR1.keep hF4 (fun e => e)
  have hz4 := hF4.size
  refine RunS_ok hr4 ⟨hR4.c12, ?_⟩
  obtain ⟨v5, w5, hr5, ho5, hf5⟩ := row_src ho4 (hm.keep (Fmf hf1 hF4) (fun _ _ e => e)) (by rw [List.length_append]; omega) hz4
  have hF5 : Fm (fun _ => False) w1 w5 := Fm.own hF4 hf5 (fun y e => e)
  have hR5 := hR1.keep hF5 (fun e => e)
  have hz5 := hF5.size
  refine RunS_ok hr5 ?_
  have hi5 := hi.keep (Fmf hf1 hF5)
  have hl5 : (L9 ++ r.slots ++ r.more).length ≤ 2000009 := by simp only [List.length_append]; omega
  generalize L9 ++ r.slots ++ r.more = L5 at ho5 hl5
  simp only [RS0, RS1, RS2, RS3, RS4, RS5, hR5.c13, hi5.lenV]
  refine ⟨fun vs w' => ∃ (i : Nat) (lv : Value), vs = [lv, iv i] ∧ i ≤ r.imgs.length ∧ w'.ownsRow w1.heap.size 3 1 lv (L5 ++ (r.imgs.take i).map (·.1)).length ((L5 ++ (r.imgs.take i).map (·.1)).map iv) ∧ Fm (fun _ => False) w1 w', fun vs _ => (r.imgs.length - nth vs 1).toNat, ⟨0, v5, rfl, by omega, by simpa using ho5, hF5⟩, ?_⟩
  rintro _ w6 lv iv6 ⟨i, lv', hvs, hile, ho6, hF6⟩
  cases hvs
  have hz6 := hF6.size
  have hti : ((r.imgs.take i).map (·.1)).length = i := by rw [List.length_map, List.length_take]; omega
  by_cases hlt : i < r.imgs.length
  · have hx : r.imgs[i]? = some r.imgs[i] := List.getElem?_eq_getElem hlt
    generalize r.imgs[i] = m at hx
    obtain ⟨ad, u, hix, hcv, hone, hpg⟩ := (hi.keep (Fmf hf1 hF6)).ld hx
    have d1 : decide ((i : Int) < (r.imgs.length : Int)) = true := by rw [decide_eq_true_eq]; omega
    have e1 : IntKind.i64.wrap ((i : Int) + 1) = ((i + 1 : Nat) : Int) := by rw [wrap_id] <;> omega
    simp only [RS0, RS1, RS2, RS3, RS4, RS5, d1, hix, hcv]
    refine New_any ?_
    intro x7 w7 hx7 hs7 hw7 hf7
    refine St_all hw7 rfl (imC_len _) (by intro q hq; simp [imC, pcs] at hq; rcases hq with rfl | rfl | rfl | rfl | rfl | rfl | rfl <;> first | rfl | exact hone) ?_
    intro w8 hw8 hs8 hf8
    have hf68 : Fm (fun _ => False) w6 w8 := Fm.own hf7 hf8 (by rintro y rfl; omega)
    have ho8 := own_keep ho6 hf68 (fun _ _ _ _ e => e)
    have c8 : w8.cell? ⟨x7, 0, none⟩ = some (iv m.1) := by rw [cell_at hw8]; rfl
    have hF8 := Fmf hF6 hf68
    have hz8 := hF8.size
    simp only [RS0, RS1, RS2, RS3, RS4, RS5, c8]
    refine row_lit ho8 (bs47_1 _ _) rfl (by rw [List.length_append, hti]; omega) hz8 ?_
    intro v9 w9 ho9 hf9
    simp only [RS0, RS1, RS2, RS3, RS4, RS5, e1]
    refine ⟨⟨i + 1, v9, rfl, by omega, ?_, Fm.own hF8 hf9 (fun y e => e)⟩, by simp only [nth_1]; omega⟩
    have e2 : L5 ++ (r.imgs.take (i + 1)).map (·.1) = L5 ++ (r.imgs.take i).map (·.1) ++ [m.1] := by rw [List.take_add_one, hx]; simp
    rw [e2]; exact ho9
  · have hie : i = r.imgs.length := by omega
    subst hie
    have d1 : decide (((r.imgs.length : Nat) : Int) < (r.imgs.length : Int)) = false := by simp
    rw [List.take_length] at ho6
    have hl6 : (L5 ++ r.imgs.map (·.1)).length ≤ 4000009 := by rw [List.length_append, List.length_map]; omega
    generalize L5 ++ r.imgs.map (·.1) = L6 at ho6 hl6
    have hR6 := hR1.keep hF6 (fun e => e)
    have hp6 := hp.keep (Fmf hf1 hF6) (fun _ _ e => e)
    simp only [RS0, RS1, RS2, RS3, RS4, RS5, d1, hR6.c14, hp6.lenV]
    refine ⟨fun vs w' => ∃ (i : Nat) (lv : Value), vs = [lv, iv i] ∧ i ≤ r.pages.length ∧ w'.ownsRow w1.heap.size 3 1 lv (L6 ++ prs (r.pages.take i)).length ((L6 ++ prs (r.pages.take i)).map iv) ∧ Fm (fun _ => False) w1 w', fun vs _ => (r.pages.length - nth vs 1).toNat, ⟨0, lv, rfl, by omega, by simpa [prs] using ho6, hF6⟩, ?_⟩
    rintro _ w7 lv iv7 ⟨i, lv', hvs, hile, ho7, hF7⟩
    cases hvs
    have hz7 := hF7.size
    have hti : (prs (r.pages.take i)).length = i * 2 := by
      have := congrArg List.length (pc2_prs (r.pages.take i))
      rw [List.length_map, flat_len pc2_len, List.length_take, Nat.min_eq_left hile] at this
      omega
    by_cases hlt : i < r.pages.length
    · have hx : r.pages[i]? = some r.pages[i] := List.getElem?_eq_getElem hlt
      generalize r.pages[i] = m at hx
      obtain ⟨ad, hix, hcv, _⟩ := cells_ld pc2_len (by omega) (hp.keep (Fmf hf1 hF7) (fun _ _ e => e)) hx
      have d1 : decide ((i : Int) < (r.pages.length : Int)) = true := by rw [decide_eq_true_eq]; omega
      have e1 : IntKind.i64.wrap ((i : Int) + 1) = ((i + 1 : Nat) : Int) := by rw [wrap_id] <;> omega
      simp only [RS0, RS1, RS2, RS3, RS4, RS5, d1, hix, hcv]
      refine New_any ?_
      intro x8 w8 hx8 hs8 hw8 hf8
      refine St_all hw8 rfl (pc2_len _) (by intro q hq; simp [pc2] at hq; rcases hq with rfl | rfl <;> rfl) ?_
      intro w9 hw9 hs9 hf9
      have hf79 : Fm (fun _ => False) w7 w9 := Fm.own hf8 hf9 (by rintro y rfl; omega)
      have ho9 := own_keep ho7 hf79 (fun _ _ _ _ e => e)
      have c0 : w9.cell? ⟨x8, 0, none⟩ = some (iv m.1) := by rw [cell_at hw9]; rfl
      have c1 : w9.cell? ⟨x8, 1, none⟩ = some (iv m.2) := by rw [cell_at hw9]; rfl
      have hF9 := Fmf hF7 hf79
      have hz9 := hF9.size
      simp only [RS0, RS1, RS2, RS3, RS4, RS5, c0, c1]
      refine row_lit ho9 (bs47_2 _ _ _) rfl (by rw [List.length_append, hti]; omega) hz9 ?_
      intro v10 w10 ho10 hf10
      simp only [RS0, RS1, RS2, RS3, RS4, RS5, e1]
      refine ⟨⟨i + 1, v10, rfl, by omega, ?_, Fm.own hF9 hf10 (fun y e => e)⟩, by simp only [nth_1]; omega⟩
      have e2 : L6 ++ prs (r.pages.take (i + 1)) = L6 ++ prs (r.pages.take i) ++ [m.1, m.2] := by rw [List.take_add_one, hx]; simp [prs]
      rw [e2]; exact ho10
    · have hie : i = r.pages.length := by omega
      subst hie
      have d1 : decide (((r.pages.length : Nat) : Int) < (r.pages.length : Int)) = false := by simp
      rw [List.take_length] at ho7 hti
      have hl7 : (L6 ++ prs r.pages).length ≤ 8000009 := by rw [List.length_append, hti]; omega
      generalize L6 ++ prs r.pages = L7 at ho7 hl7
      have hR7 := hR1.keep hF7 (fun e => e)
      have ht7 := ht.keep (Fmf hf1 hF7) (fun _ _ e => e)
      simp only [RS0, RS1, RS2, RS3, RS4, RS5, d1, hR7.c15, ht7.lenV]
      refine ⟨fun vs w' => ∃ (i : Nat) (lv : Value), vs = [lv, iv i] ∧ i ≤ r.txns.length ∧ w'.ownsRow w1.heap.size 3 1 lv (L7 ++ prs (r.txns.take i)).length ((L7 ++ prs (r.txns.take i)).map iv) ∧ Fm (fun _ => False) w1 w', fun vs _ => (r.txns.length - nth vs 1).toNat, ⟨0, lv, rfl, by omega, by simpa [prs] using ho7, hF7⟩, ?_⟩
      rintro _ w8 lv iv8 ⟨i, lv', hvs, hile, ho8, hF8⟩
      cases hvs
      have hz8 := hF8.size
      have hti : (prs (r.txns.take i)).length = i * 2 := by
        have := congrArg List.length (pc2_prs (r.txns.take i))
        rw [List.length_map, flat_len pc2_len, List.length_take, Nat.min_eq_left hile] at this
        omega
      by_cases hlt : i < r.txns.length
      · have hx : r.txns[i]? = some r.txns[i] := List.getElem?_eq_getElem hlt
        generalize r.txns[i] = m at hx
        obtain ⟨ad, hix, hcv, _⟩ := cells_ld pc2_len (by omega) (ht.keep (Fmf hf1 hF8) (fun _ _ e => e)) hx
        have d1 : decide ((i : Int) < (r.txns.length : Int)) = true := by rw [decide_eq_true_eq]; omega
        have e1 : IntKind.i64.wrap ((i : Int) + 1) = ((i + 1 : Nat) : Int) := by rw [wrap_id] <;> omega
        simp only [RS0, RS1, RS2, RS3, RS4, RS5, d1, hix, hcv]
        refine New_any ?_
        intro x9 w9 hx9 hs9 hw9 hf9
        refine St_all hw9 rfl (pc2_len _) (by intro q hq; simp [pc2] at hq; rcases hq with rfl | rfl <;> rfl) ?_
        intro w10 hw10 hs10 hf10
        have hf810 : Fm (fun _ => False) w8 w10 := Fm.own hf9 hf10 (by rintro y rfl; omega)
        have ho10 := own_keep ho8 hf810 (fun _ _ _ _ e => e)
        have c0 : w10.cell? ⟨x9, 0, none⟩ = some (iv m.1) := by rw [cell_at hw10]; rfl
        have c1 : w10.cell? ⟨x9, 1, none⟩ = some (iv m.2) := by rw [cell_at hw10]; rfl
        have hF10 := Fmf hF8 hf810
        have hz10 := hF10.size
        simp only [RS0, RS1, RS2, RS3, RS4, RS5, c0, c1]
        refine row_lit ho10 (bs47_2 _ _ _) rfl (by rw [List.length_append, hti]; omega) hz10 ?_
        intro v11 w11 ho11 hf11
        simp only [RS0, RS1, RS2, RS3, RS4, RS5, e1]
        refine ⟨⟨i + 1, v11, rfl, by omega, ?_, Fm.own hF10 hf11 (fun y e => e)⟩, by simp only [nth_1]; omega⟩
        have e2 : L7 ++ prs (r.txns.take (i + 1)) = L7 ++ prs (r.txns.take i) ++ [m.1, m.2] := by rw [List.take_add_one, hx]; simp [prs]
        rw [e2]; exact ho11
      · have hie : i = r.txns.length := by omega
        subst hie
        have d1 : decide (((r.txns.length : Nat) : Int) < (r.txns.length : Int)) = false := by simp
        rw [List.take_length] at ho8
        simp only [RS0, RS1, RS2, RS3, RS4, RS5, d1]
        exact ⟨own_base ho8 (by omega), Fmf hf1 hF8⟩

/-! ### Is any beyond bounds? -/
theorem bad_spec (w : World) (n : Int) : Cl Tryz.prog 157 [iv n] w fun v w' => v = .bool (badN n) ∧ w' = w := by
  refine c157 ?_; unfold T157
  unfold badN
  simp only [RS0, RS1, RS2, RS3, RS4, RS5]
  cases h1 : decide (n < 0) with
  | true =>
    simp only [RS0, RS1, RS2, RS3, RS4, RS5, Bool.true_or]
    exact ⟨(by trivial), (by trivial)⟩
  | false =>
    simp only [RS0, RS1, RS2, RS3, RS4, RS5, Bool.false_or]
    exact ⟨(by trivial), (by trivial)⟩
theorem contains_spec {w : World} {v : Value} {L : List Int} (h : CellsAt w v L.length 1 (L.map iv)) : Cl Tryz.prog 155 [v, .func (.func 157) #[] #[]] w fun u w' => u = .bool (L.any badN) ∧ w' = w := by
  have hlt := h.lt
  unfold maxLen at hlt
  have key : Cl Tryz.prog 198 [v, .func (.func 157) #[] #[]] w fun u w' => ∃ i : Int, u = iv i ∧ decide (0 ≤ i) = L.any badN ∧ w' = w := by
    refine c198 ?_; unfold T198
    simp only [RS0, RS1, RS2, RS3, RS4, RS5, h.lenV]
    refine ⟨fun vs w2 => ∃ i : Nat, vs = [iv i] ∧ i ≤ L.length ∧ (L.take i).any badN = false ∧ w2 = w, fun vs _ => (L.length - nth vs 0).toNat, ⟨0, rfl, by omega, rfl, rfl⟩, ?_⟩
    rintro _ w2 ivv ⟨i, hvs, hi, hno, rfl⟩
    cases hvs
    by_cases hl : i < L.length
    · have e1 : decide ((i : Int) < (L.length : Int)) = true := by rw [decide_eq_true_eq]; omega
      have e2 : IntKind.i64.wrap ((i : Int) + 1) = ((i + 1 : Nat) : Int) := by rw [wrap_id] <;> omega
      have hx : L[i]? = some L[i] := List.getElem?_eq_getElem hl
      generalize L[i] = n at hx
      obtain ⟨ad, hix, _, hc⟩ := h.at1 (i := i) (x := iv n) (by rw [List.getElem?_map, hx]; rfl) .i64
      simp only [RS0, RS1, RS2, RS3, RS4, RS5, e1, hix, hc]
      refine ClV_func (by kernel_rfl) ?_
      refine (bad_spec w2 n).mono ?_
      rintro _ w3 ⟨rfl, rfl⟩
      cases hb : badN n with
      | true =>
        simp only [RS0, RS1, RS2, RS3, RS4, RS5]
        refine ⟨i, (by trivial), ?_, (by trivial)⟩
        rw [decide_eq_true (by omega)]
        exact (List.any_eq_true.2 ⟨n, List.mem_of_getElem? hx, hb⟩).symm
      | false =>
        simp only [RS0, RS1, RS2, RS3, RS4, RS5, e2]
        refine ⟨⟨i + 1, rfl, by omega, ?_, (by trivial)⟩, by simp only [nth_0]; omega⟩
        rw [List.take_add_one, hx, List.any_append, hno]
        simp [hb]
    · have hie : i = L.length := by omega
      subst hie
      have e1 : decide (((L.length : Nat) : Int) < (L.length : Int)) = false := by simp
      rw [List.take_length] at hno
      simp only [RS0, RS1, RS2, RS3, RS4, RS5, e1]
      exact ⟨-1, (by trivial), by rw [hno]; rfl, (by trivial)⟩
  refine c155 ?_; unfold T155
  refine key.mono ?_
  rintro _ w2 ⟨i, rfl, hi, rfl⟩
  simp only [RS0, RS1, RS2, RS3, RS4, RS5, hi]
  exact ⟨(by trivial), (by trivial)⟩

/-! ### The noughts at the end -/
theorem trimZ_last {t : Bs} {b : UInt8} (h : t[t.length - 1]? = some b) : trimZ t = bif decide (b = 0) then trimZ (t.take (t.length - 1)) else t := by
  have hl := (List.getElem?_eq_some_iff.1 h).1
  have ht : t = t.take (t.length - 1) ++ [b] := by
    have := List.take_append_drop (t.length - 1) t
    rw [List.drop_eq_getElem_cons hl, (List.getElem?_eq_some_iff.1 h).2, show t.length - 1 + 1 = t.length by omega, List.drop_length] at this
    exact this.symm
  generalize t.take (t.length - 1) = s at ht
  subst ht
  unfold trimZ
  rw [List.reverse_append, List.reverse_singleton, List.singleton_append, List.dropWhile_cons]
  cases hb : decide (b = 0) with
  | true =>
    rw [decide_eq_true_eq] at hb
    subst hb
    rfl
  | false =>
    rw [decide_eq_false_iff_not] at hb
    rw [if_neg (by simpa using hb)]
    simp
theorem trimr_spec (w : World) (s : Bs) (hs : s.length ≤ 1000000) : Cl Tryz.prog 202 [stv s, stv [0]] w fun v w' => v = stv (trimZ s) ∧ w' = w := by
  refine c202 ?_; unfold T202
  have e0 : decide (([0] : Bs) = []) = false := by decide
  simp only [RS0, RS1, RS2, RS3, RS4, RS5, str_nil, str_inj, e0]
  cases hn : decide (s = []) with
  | true =>
    rw [decide_eq_true_eq] at hn
    subst hn
    simp only [RS0, RS1, RS2, RS3, RS4, RS5]
    exact ⟨(by trivial), (by trivial)⟩
  | false =>
  have e1 : lenS (stv [0]) = some (iv 1) := rfl
  have e2 : ixS (stv [0]) (Value.int .i64 0) = some (.int .u8 0) := rfl
  have e3 : decide ((0 : Int) < 128) = true := by decide
  have e4 : (((str ([0] : Bs)).size : Int) == 1) = true := rfl
  have e5 : decide (str ([0] : Bs) = str []) = false := by rw [decide_eq_false_iff_not, str_inj]; decide
  simp only [RS0, RS1, RS2, RS3, RS4, RS5, e1, e2, e3, e4, e5]
  refine c182 ?_; unfold T182
  refine ⟨fun vs w2 => ∃ t : Bs, vs = [stv t] ∧ t.length ≤ s.length ∧ trimZ t = trimZ s ∧ w2 = w, fun vs _ => match vs with
    | [.string b] => b.size
    | _ => 0, ⟨s, rfl, Nat.le_refl _, rfl, rfl⟩, ?_⟩
  rintro _ w2 tv ⟨t, hvs, hl, htr, rfl⟩
  cases hvs
  simp only [RS0, RS1, RS2, RS3, RS4, RS5, str_size]
  by_cases h0 : 0 < t.length
  · have d1 : decide ((0 : Int) < (t.length : Int)) = true := by rw [decide_eq_true_eq]; omega
    have e5 : IntKind.i64.wrap ((t.length : Int) - 1) = ((t.length - 1 : Nat) : Int) := by rw [wrap_id] <;> omega
    have hx : t[t.length - 1]? = some t[t.length - 1] := List.getElem?_eq_getElem (by omega)
    generalize t[t.length - 1] = b at hx
    have hlast := trimZ_last hx
    have e6 := ixS_str hx .i64
    have e7 : ((b.toNat : Int) == 0) = decide (b = 0) := by
      rw [beq_dec, decide_eq_decide]
      constructor
      · intro e
        exact UInt8.toNat_inj.1 (by simpa using (show b.toNat = 0 by omega))
      · rintro rfl; rfl
    have e8 := slS_hi (l := t) (i := t.length - 1) (by omega) .i64
    simp only [RS0, RS1, RS2, RS3, RS4, RS5, d1, str_size, e5, e6, e7]
    cases hb : decide (b = 0) with
    | true =>
      rw [hb, cond_true] at hlast
      simp only [RS0, RS1, RS2, RS3, RS4, RS5, str_size, e5, e8]
      refine ⟨⟨t.take (t.length - 1), rfl, by rw [List.length_take]; omega, by rw [← hlast]; exact htr, (by trivial)⟩, ?_⟩
      simp only [str_size, List.length_take]; omega
    | false =>
      rw [hb, cond_false] at hlast
      simp only [RS0, RS1, RS2, RS3, RS4, RS5]
      exact ⟨by rw [← htr, hlast], (by trivial)⟩
  · have ht0 : t = [] := List.eq_nil_of_length_eq_zero (by omega)
    subst ht0
    have d1 : decide ((0 : Int) < (([] : Bs).length : Int)) = false := by decide
    simp only [RS0, RS1, RS2, RS3, RS4, RS5, d1]
    exact ⟨by rw [← htr]; rfl, (by trivial)⟩

end Go.Proofs.YthbngnlmgplijaaGreatDoor
