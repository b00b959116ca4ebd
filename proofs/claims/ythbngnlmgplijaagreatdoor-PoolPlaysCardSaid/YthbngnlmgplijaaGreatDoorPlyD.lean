/- Laid for one claim by slim.py out of: RcEnc RcEnc2 CpsQR PgREnc AlOut RcRef1 RcRef2 RcRef3 RcRef5 RcRd RcOut RcDecS AlKp. -/
import Derived.Test.YthbngnlmgplijaaGreatDoorPlyC
namespace Go.Proofs.YthbngnlmgplijaaGreatDoor
open Go.Al Go.Proofs
set_option linter.unusedVariables false
set_option linter.unusedSimpArgs false
set_option linter.unusedSectionVars false
set_option maxRecDepth 100000

theorem iv_one (l : List Int) : ∀ u ∈ l.map iv, u.oneCell' = true := by
  intro u hu
  obtain ⟨n, _, rfl⟩ := List.mem_map.1 hu
  rfl
theorem row_src {w : World} {b0 : Nat} {lv v : Value} {L ns : List Int} (ho : w.ownsRow b0 3 1 lv L.length (L.map iv)) (hc : CellsAt w v ns.length 1 (ns.map iv)) (hl : L.length + ns.length ≤ 100000000) (hb : b0 ≤ w.heap.size) :
    ∃ v' w', (Builtin.append_ #[23, 23] 23 #[lv, v]).run Tryz.prog w = .ok v' w' ∧ w'.ownsRow b0 3 1 v' (L ++ ns).length ((L ++ ns).map iv) ∧ Fm (fun y => b0 ≤ y) w w' := by
  obtain ⟨v', w', hr, ho', hf⟩ := append_srcO E47 (by omega) ho hc (iv_one ns) 23 (by unfold maxLen; omega) (by omega) hb
  refine ⟨v', w', hr, ?_, hf.mono (fun y _ e => (own_lt ho y e).1)⟩
  rw [List.length_append, List.map_append]; exact ho'
theorem row_lit {w : World} {b0 n : Nat} {lv : Value} {L ns : List Int} {items : Array (Nat × Value)} (ho : w.ownsRow b0 3 1 lv L.length (L.map iv)) (hbs : (Instr.buildSlice 23 n items).run Tryz.prog w = .ok (.slice (some ⟨w.heap.size, 0, none⟩) n n) (w.alloc (.cells (ns.map iv).toArray 3))) (hn : ns.length = n) (hl : L.length + n ≤ 100000000) (hb : b0 ≤ w.heap.size) {k : KV}
    (hk : ∀ v' w', w'.ownsRow b0 3 1 v' (L ++ ns).length ((L ++ ns).map iv) → Fm (fun y => b0 ≤ y) w w' → k v' w') : RunS Tryz.prog (Instr.buildSlice 23 n items) w fun t w1 => RunS Tryz.prog (Builtin.append_ #[23, 23] 23 #[lv, t]) w1 k := by
  refine RunS_ok hbs ?_
  subst hn
  have hf := Fm.alloc (fun _ => False) w (.cells (ns.map iv).toArray 3)
  have hnew := own_new (w := w) (e := 3) (sz := 1) (base := w.heap.size) (n := ns.length) (l := ns.map iv) (by simp) (Nat.le_refl _) (by unfold maxLen; omega)
  have ho1 := own_keep ho hf (fun _ _ _ _ e => e)
  have hz := hf.size
  generalize w.alloc (.cells (ns.map iv).toArray 3) = w1 at hf hnew ho1 hz
  obtain ⟨v', w', hr, ho', hf'⟩ := row_src ho1 (CellsAt.of_own hnew) hl (by omega)
  exact RunS_ok hr (hk v' w' ho' ((hf.mono (fun _ _ e => e.elim)).trans hf' (fun _ _ e => e) (fun _ _ e => e)))

set_option maxHeartbeats 8000000 in
theorem numbers_spec {w : World} {cs : Array Value} {r : Rc} (h : RcAs w cs r) : Cl Tryz.prog 156 [.agg cs] w fun v w' => w'.ownsRow w.heap.size 3 1 v (rNums r).length ((rNums r).map iv) ∧ Fm (fun _ => False) w w' := by
  obtain ⟨vs, vm, vi, vp, vt, hcs, _, hs, hm, hi, hp, ht⟩ := h.ex
  have hbulk := h.bulk
  refine c156 ?_; unfold T156
  refine New_any ?_
  intro x1 w1 hx1 hs1 hw1 hf1
  have hR1 : RB w1 x1 r vs vm vi vp vt := ⟨by rw [← hcs]; exact hw1⟩
  have hz1 := hf1.size
  simp only [RS0, RS1, RS2, RS3, RS4, RS5, hR1.c0, hR1.c1, hR1.c2, hR1.c4, hR1.c5, hR1.c6, hR1.c7, hR1.c8, hR1.c9]
  refine RunS_ok (bs47_9 _ _ _ _ _ _ _ _ _ _) ?_
  have hf2 := Fm.alloc (fun _ => False) w1 (.cells ([r.lsn, r.prev, r.next, r.redo, r.xid, r.page, r.slot, r.old, r.new].map iv).toArray 3)
  have ho2 := own_new (w := w1) (e := 3) (sz := 1) (base := w1.heap.size) (n := 9) (l := [r.lsn, r.prev, r.next, r.redo, r.xid, r.page, r.slot, r.old, r.new].map iv) (by simp) (Nat.le_refl _) (by simp [maxLen])
  have hL : rNums r = [r.lsn, r.prev, r.next, r.redo, r.xid, r.page, r.slot, r.old, r.new] ++ r.slots ++ r.more ++ r.imgs.map (·.1) ++ prs r.pages ++ prs r.txns := rfl
  have h9 : ([r.lsn, r.prev, r.next, r.redo, r.xid, r.page, r.slot, r.old, r.new] : List Int).length = 9 := rfl
  rw [hL]
  replace ho2 : (w1.alloc (.cells ([r.lsn, r.prev, r.next, r.redo, r.xid, r.page, r.slot, r.old, r.new].map iv).toArray 3)).ownsRow w1.heap.size 3 1 (.slice (some ⟨w1.heap.size, 0, none⟩) 9 9) ([r.lsn, r.prev, r.next, r.redo, r.xid, r.page, r.slot, r.old, r.new] : List Int).length ([r.lsn, r.prev, r.next, r.redo, r.xid, r.page, r.slot, r.old, r.new].map iv) := ho2
  generalize w1.alloc (.cells ([r.lsn, r.prev, r.next, r.redo, r.xid, r.page, r.slot, r.old, r.new].map iv).toArray 3) = w2 at hf2 ho2
  generalize ([r.lsn, r.prev, r.next, r.redo, r.xid, r.page, r.slot, r.old, r.new] : List Int) = L9 at ho2 h9
  have hf3 := Fm.drew (fun _ => False) w2
  have hR2 := hR1.keep hf2 (fun e => e)
  have hR3 := hR2.keep hf3 (fun e => e)
  refine ⟨fun w' => w'.cell? ⟨x1, 12, none⟩ = some vm, hR3.c12, ?_⟩
  simp only [RS0, RS1, RS2, RS3, RS4, RS5, hR2.c11, hR3.c11, true_and]
  refine ⟨vm, fun w9 h9 => ?_, ?_⟩
  · simp only [RS0, RS1, RS2, RS3, RS4, RS5, h9]; trivial
  have ho3 := own_keep ho2 hf3 (fun _ _ _ _ e => e)
  have hF3 := Fmf hf2 hf3
  generalize w2.drew = w3 at hf3 hR3 ho3 hF3
  have hz3 := hF3.size
  obtain ⟨v4, w4, hr4, ho4, hf4⟩ := row_src ho3 (hs.keep (Fmf hf1 hF3) (fun _ _ e => e)) (by omega) hz3
  have hx1lt := hR1.lt
  have hF4 : Fm (fun _ => False) w1 w4 := Fm.own hF3 hf4 (fun y e => e)
  have hR4 := hR1.keep hF4 (fun e => e)
  have hz4 := hF4.size
  refine RunS_ok hr4 ⟨hR4.c12, ?_⟩
  obtain ⟨v5, w5, hr5, ho5, hf5⟩ := row_src ho4 (hm.keep (Fmf hf1 hF4) (fun _ _ e => e)) (by rw [List.length_append]; omega) hz4
  have hF5 : Fm (fun _ => False) w1 w5 := Fm.own hF4 hf5 (fun y e => e)
  have hR5 := hR1.keep hF5 (fun e => e)
  have hz5 := hF5.size
  refine RunS_ok hr5 ?_
  have hi5 := hi.keep (Fmf hf1 hF5)
  have hl5 : (L9 ++ r.slots ++ r.more).length ≤ 2000009 := by simp only [List.length_append]; omega
  generalize L9 ++ r.slots ++ r.more = L5 at ho5 hl5
  simp only [RS0, RS1, RS2, RS3, RS4, RS5, hR5.c13, hi5.lenV]
  refine ⟨fun vs w' => ∃ (i : Nat) (lv : Value), vs = [lv, iv i] ∧ i ≤ r.imgs.length ∧ w'.ownsRow w1.heap.size 3 1 lv (L5 ++ (r.imgs.take i).map (·.1)).length ((L5 ++ (r.imgs.take i).map (·.1)).map iv) ∧ Fm (fun _ => False) w1 w', fun vs _ => (r.imgs.length - nth vs 1).toNat, ⟨0, v5, rfl, by omega, by simpa using ho5, hF5⟩, ?_⟩
  rintro _ w6 lv iv6 ⟨i, lv', hvs, hile, ho6, hF6⟩
  cases hvs
  have hz6 := hF6.size
  have hti : ((r.imgs.take i).map (·.1)).length = i := by rw [List.length_map, List.length_take]; omega
  by_cases hlt : i < r.imgs.length
  · have hx : r.imgs[i]? = some r.imgs[i] := List.getElem?_eq_getElem hlt
    generalize r.imgs[i] = m at hx
    obtain ⟨ad, u, hix, hcv, hone, hpg⟩ := (hi.keep (Fmf hf1 hF6)).ld hx
    have d1 : decide ((i : Int) < (r.imgs.length : Int)) = true := by rw [decide_eq_true_eq]; omega
    have e1 : IntKind.i64.wrap ((i : Int) + 1) = ((i + 1 : Nat) : Int) := by rw [wrap_id] <;> omega
    simp only [RS0, RS1, RS2, RS3, RS4, RS5, d1, hix, hcv]
    refine New_any ?_
    intro x7 w7 hx7 hs7 hw7 hf7
    refine St_all hw7 rfl (imC_len _) (by intro q hq; simp [imC, pcs] at hq; rcases hq with rfl | rfl | rfl | rfl | rfl | rfl | rfl <;> first | rfl | exact hone) ?_
    intro w8 hw8 hs8 hf8
    have hf68 : Fm (fun _ => False) w6 w8 := Fm.own hf7 hf8 (by rintro y rfl; omega)
    have ho8 := own_keep ho6 hf68 (fun _ _ _ _ e => e)
    have c8 : w8.cell? ⟨x7, 0, none⟩ = some (iv m.1) := by rw [cell_at hw8]; rfl
    have hF8 := Fmf hF6 hf68
    have hz8 := hF8.size
    simp only [RS0, RS1, RS2, RS3, RS4, RS5, c8]
    refine row_lit ho8 (bs47_1 _ _) rfl (by rw [List.length_append, hti]; omega) hz8 ?_
    intro v9 w9 ho9 hf9
    simp only [RS0, RS1, RS2, RS3, RS4, RS5, e1]
    refine ⟨⟨i + 1, v9, rfl, by omega, ?_, Fm.own hF8 hf9 (fun y e => e)⟩, by simp only [nth_1]; omega⟩
    have e2 : L5 ++ (r.imgs.take (i + 1)).map (·.1) = L5 ++ (r.imgs.take i).map (·.1) ++ [m.1] := by rw [List.take_add_one, hx]; simp
    rw [e2]; exact ho9
  · have hie : i = r.imgs.length := by omega
    subst hie
    have d1 : decide (((r.imgs.length : Nat) : Int) < (r.imgs.length : Int)) = false := by simp
    rw [List.take_length] at ho6
    have hl6 : (L5 ++ r.imgs.map (·.1)).length ≤ 4000009 := by rw [List.length_append, List.length_map]; omega
    generalize L5 ++ r.imgs.map (·.1) = L6 at ho6 hl6
    have hR6 := hR1.keep hF6 (fun e => e)
    have hp6 := hp.keep (Fmf hf1 hF6) (fun _ _ e => e)
    simp only [RS0, RS1, RS2, RS3, RS4, RS5, d1, hR6.c14, hp6.lenV]
    refine ⟨fun vs w' => ∃ (i : Nat) (lv : Value), vs = [lv, iv i] ∧ i ≤ r.pages.length ∧ w'.ownsRow w1.heap.size 3 1 lv (L6 ++ prs (r.pages.take i)).length ((L6 ++ prs (r.pages.take i)).map iv) ∧ Fm (fun _ => False) w1 w', fun vs _ => (r.pages.length - nth vs 1).toNat, ⟨0, lv, rfl, by omega, by simpa [prs] using ho6, hF6⟩, ?_⟩
    rintro _ w7 lv iv7 ⟨i, lv', hvs, hile, ho7, hF7⟩
    cases hvs
    have hz7 := hF7.size
    have hti : (prs (r.pages.take i)).length = i * 2 := by
      have := congrArg List.length (pc2_prs (r.pages.take i))
      rw [List.length_map, flat_len pc2_len, List.length_take, Nat.min_eq_left hile] at this
      omega
    by_cases hlt : i < r.pages.length
    · have hx : r.pages[i]? = some r.pages[i] := List.getElem?_eq_getElem hlt
      generalize r.pages[i] = m at hx
      obtain ⟨ad, hix, hcv, _⟩ := cells_ld pc2_len (by omega) (hp.keep (Fmf hf1 hF7) (fun _ _ e => e)) hx
      have d1 : decide ((i : Int) < (r.pages.length : Int)) = true := by rw [decide_eq_true_eq]; omega
      have e1 : IntKind.i64.wrap ((i : Int) + 1) = ((i + 1 : Nat) : Int) := by rw [wrap_id] <;> omega
      simp only [RS0, RS1, RS2, RS3, RS4, RS5, d1, hix, hcv]
      refine New_any ?_
      intro x8 w8 hx8 hs8 hw8 hf8
      refine St_all hw8 rfl (pc2_len _) (by intro q hq; simp [pc2] at hq; rcases hq with rfl | rfl <;> rfl) ?_
      intro w9 hw9 hs9 hf9
      have hf79 : Fm (fun _ => False) w7 w9 := Fm.own hf8 hf9 (by rintro y rfl; omega)
      have ho9 := own_keep ho7 hf79 (fun _ _ _ _ e => e)
      have c0 : w9.cell? ⟨x8, 0, none⟩ = some (iv m.1) := by rw [cell_at hw9]; rfl
      have c1 : w9.cell? ⟨x8, 1, none⟩ = some (iv m.2) := by rw [cell_at hw9]; rfl
      have hF9 := Fmf hF7 hf79
      have hz9 := hF9.size
      simp only [RS0, RS1, RS2, RS3, RS4, RS5, c0, c1]
      refine row_lit ho9 (bs47_2 _ _ _) rfl (by rw [List.length_append, hti]; omega) hz9 ?_
      intro v10 w10 ho10 hf10
      simp only [RS0, RS1, RS2, RS3, RS4, RS5, e1]
      refine ⟨⟨i + 1, v10, rfl, by omega, ?_, Fm.own hF9 hf10 (fun y e => e)⟩, by simp only [nth_1]; omega⟩
      have e2 : L6 ++ prs (r.pages.take (i + 1)) = L6 ++ prs (r.pages.take i) ++ [m.1, m.2] := by rw [List.take_add_one, hx]; simp [prs]
      rw [e2]; exact ho10
    · have hie : i = r.pages.length := by omega
      subst hie
      have d1 : decide (((r.pages.length : Nat) : Int) < (r.pages.length : Int)) = false := by simp
      rw [List.take_length] at ho7 hti
      have hl7 : (L6 ++ prs r.pages).length ≤ 8000009 := by rw [List.length_append, hti]; omega
      generalize L6 ++ prs r.pages = L7 at ho7 hl7
      have hR7 := hR1.keep hF7 (fun e => e)
      have ht7 := ht.keep (Fmf hf1 hF7) (fun _ _ e => e)
      simp only [RS0, RS1, RS2, RS3, RS4, RS5, d1, hR7.c15, ht7.lenV]
      refine ⟨fun vs w' => ∃ (i : Nat) (lv : Value), vs = [lv, iv i] ∧ i ≤ r.txns.length ∧ w'.ownsRow w1.heap.size 3 1 lv (L7 ++ prs (r.txns.take i)).length ((L7 ++ prs (r.txns.take i)).map iv) ∧ Fm (fun _ => False) w1 w', fun vs _ => (r.txns.length - nth vs 1).toNat, ⟨0, lv, rfl, by omega, by simpa [prs] using ho7, hF7⟩, ?_⟩
      rintro _ w8 lv iv8 ⟨i, lv', hvs, hile, ho8, hF8⟩
      cases hvs
      have hz8 := hF8.size
      have hti : (prs (r.txns.take i)).length = i * 2 := by
        have := congrArg List.length (pc2_prs (r.txns.take i))
        rw [List.length_map, flat_len pc2_len, List.length_take, Nat.min_eq_left hile] at this
        omega
      by_cases hlt : i < r.txns.length
      · have hx : r.txns[i]? = some r.txns[i] := List.getElem?_eq_getElem hlt
        generalize r.txns[i] = m at hx
        obtain ⟨ad, hix, hcv, _⟩ := cells_ld pc2_len (by omega) (ht.keep (Fmf hf1 hF8) (fun _ _ e => e)) hx
        have d1 : decide ((i : Int) < (r.txns.length : Int)) = true := by rw [decide_eq_true_eq]; omega
        have e1 : IntKind.i64.wrap ((i : Int) + 1) = ((i + 1 : Nat) : Int) := by rw [wrap_id] <;> omega
        simp only [RS0, RS1, RS2, RS3, RS4, RS5, d1, hix, hcv]
        refine New_any ?_
        intro x9 w9 hx9 hs9 hw9 hf9
        refine St_all hw9 rfl (pc2_len _) (by intro q hq; simp [pc2] at hq; rcases hq with rfl | rfl <;> rfl) ?_
        intro w10 hw10 hs10 hf10
        have hf810 : Fm (fun _ => False) w8 w10 := Fm.own hf9 hf10 (by rintro y rfl; omega)
        have ho10 := own_keep ho8 hf810 (fun _ _ _ _ e => e)
        have c0 : w10.cell? ⟨x9, 0, none⟩ = some (iv m.1) := by rw [cell_at hw10]; rfl
        have c1 : w10.cell? ⟨x9, 1, none⟩ = some (iv m.2) := by rw [cell_at hw10]; rfl
        have hF10 := Fmf hF8 hf810
        have hz10 := hF10.size
        simp only [RS0, RS1, RS2, RS3, RS4, RS5, c0, c1]
        refine row_lit ho10 (bs47_2 _ _ _) rfl (by rw [List.length_append, hti]; omega) hz10 ?_
        intro v11 w11 ho11 hf11
        simp only [RS0, RS1, RS2, RS3, RS4, RS5, e1]
        refine ⟨⟨i + 1, v11, rfl, by omega, ?_, Fm.own hF10 hf11 (fun y e => e)⟩, by simp only [nth_1]; omega⟩
        have e2 : L7 ++ prs (r.txns.take (i + 1)) = L7 ++ prs (r.txns.take i) ++ [m.1, m.2] := by rw [List.take_add_one, hx]; simp [prs]
        rw [e2]; exact ho11
      · have hie : i = r.txns.length := by omega
        subst hie
        have d1 : decide (((r.txns.length : Nat) : Int) < (r.txns.length : Int)) = false := by simp
        rw [List.take_length] at ho8
        simp only [RS0, RS1, RS2, RS3, RS4, RS5, d1]
        exact ⟨own_base ho8 (by omega), Fmf hf1 hF8⟩

/-! ### Is any beyond bounds? -/
theorem bad_spec (w : World) (n : Int) : Cl Tryz.prog 157 [iv n] w fun v w' => v = .bool (badN n) ∧ w' = w := by
  refine c157 ?_; unfold T157
  unfold badN
  simp only [RS0, RS1, RS2, RS3, RS4, RS5]
  cases h1 : decide (n < 0) with
  | true =>
    simp only [RS0, RS1, RS2, RS3, RS4, RS5, Bool.true_or]
    exact ⟨(by trivial), (by trivial)⟩
  | false =>
    simp only [RS0, RS1, RS2, RS3, RS4, RS5, Bool.false_or]
    exact ⟨(by trivial), (by trivial)⟩
theorem contains_spec {w : World} {v : Value} {L : List Int} (h : CellsAt w v L.length 1 (L.map iv)) : Cl Tryz.prog 155 [v, .func (.func 157) #[] #[]] w fun u w' => u = .bool (L.any badN) ∧ w' = w := by
  have hlt := h.lt
  unfold maxLen at hlt
  have key : Cl Tryz.prog 198 [v, .func (.func 157) #[] #[]] w fun u w' => ∃ i : Int, u = iv i ∧ decide (0 ≤ i) = L.any badN ∧ w' = w := by
    refine c198 ?_; unfold T198
    simp only [RS0, RS1, RS2, RS3, RS4, RS5, h.lenV]
    refine ⟨fun vs w2 => ∃ i : Nat, vs = [iv i] ∧ i ≤ L.length ∧ (L.take i).any badN = false ∧ w2 = w, fun vs _ => (L.length - nth vs 0).toNat, ⟨0, rfl, by omega, rfl, rfl⟩, ?_⟩
    rintro _ w2 ivv ⟨i, hvs, hi, hno, rfl⟩
    cases hvs
    by_cases hl : i < L.length
    · have e1 : decide ((i : Int) < (L.length : Int)) = true := by rw [decide_eq_true_eq]; omega
      have e2 : IntKind.i64.wrap ((i : Int) + 1) = ((i + 1 : Nat) : Int) := by rw [wrap_id] <;> omega
      have hx : L[i]? = some L[i] := List.getElem?_eq_getElem hl
      generalize L[i] = n at hx
      obtain ⟨ad, hix, _, hc⟩ := h.at1 (i := i) (x := iv n) (by rw [List.getElem?_map, hx]; rfl) .i64
      simp only [RS0, RS1, RS2, RS3, RS4, RS5, e1, hix, hc]
      refine ClV_func (by kernel_rfl) ?_
      refine (bad_spec w2 n).mono ?_
      rintro _ w3 ⟨rfl, rfl⟩
      cases hb : badN n with
      | true =>
        simp only [RS0, RS1, RS2, RS3, RS4, RS5]
        refine ⟨i, (by trivial), ?_, (by trivial)⟩
        rw [decide_eq_true (by omega)]
        exact (List.any_eq_true.2 ⟨n, List.mem_of_getElem? hx, hb⟩).symm
      | false =>
        simp only [RS0, RS1, RS2, RS3, RS4, RS5, e2]
        refine ⟨⟨i + 1, rfl, by omega, ?_, (by trivial)⟩, by simp only [nth_0]; omega⟩
        rw [List.take_add_one, hx, List.any_append, hno]
        simp [hb]
    · have hie : i = L.length := by omega
      subst hie
      have e1 : decide (((L.length : Nat) : Int) < (L.length : Int)) = false := by simp
      rw [List.take_length] at hno
      simp only [RS0, RS1, RS2, RS3, RS4, RS5, e1]
      exact ⟨-1, (by trivial), by rw [hno]; rfl, (by trivial)⟩
  refine c155 ?_; unfold T155
  refine key.mono ?_
  rintro _ w2 ⟨i, rfl, hi, rfl⟩
  simp only [RS0, RS1, RS2, RS3, RS4, RS5, hi]
  exact ⟨(by trivial), (by trivial)⟩

/-! ### The noughts at the end -/
theorem trimZ_last {t : Bs} {b : UInt8} (h : t[t.length - 1]? = some b) : trimZ t = bif decide (b = 0) then trimZ (t.take (t.length - 1)) else t := by
  have hl := (List.getElem?_eq_some_iff.1 h).1
  have ht : t = t.take (t.length - 1) ++ [b] := by
    have := List.take_append_drop (t.length - 1) t
    rw [List.drop_eq_getElem_cons hl, (List.getElem?_eq_some_iff.1 h).2, show t.length - 1 + 1 = t.length by omega, List.drop_length] at this
    exact this.symm
  generalize t.take (t.length - 1) = s at ht
  subst ht
  unfold trimZ
  rw [List.reverse_append, List.reverse_singleton, List.singleton_append, List.dropWhile_cons]
  cases hb : decide (b = 0) with
  | true =>
    rw [decide_eq_true_eq] at hb
    subst hb
    rfl
  | false =>
    rw [decide_eq_false_iff_not] at hb
    rw [if_neg (by simpa using hb)]
    simp
theorem trimr_spec (w : World) (s : Bs) (hs : s.length ≤ 1000000) : Cl Tryz.prog 202 [stv s, stv [0]] w fun v w' => v = stv (trimZ s) ∧ w' = w := by
  refine c202 ?_; unfold T202
  have e0 : decide (([0] : Bs) = []) = false := by decide
  simp only [RS0, RS1, RS2, RS3, RS4, RS5, str_nil, str_inj, e0]
  cases hn : decide (s = []) with
  | true =>
    rw [decide_eq_true_eq] at hn
    subst hn
    simp only [RS0, RS1, RS2, RS3, RS4, RS5]
    exact ⟨(by trivial), (by trivial)⟩
  | false =>
  have e1 : lenS (stv [0]) = some (iv 1) := rfl
  have e2 : ixS (stv [0]) (Value.int .i64 0) = some (.int .u8 0) := rfl
  have e3 : decide ((0 : Int) < 128) = true := by decide
  have e4 : (((str ([0] : Bs)).size : Int) == 1) = true := rfl
  have e5 : decide (str ([0] : Bs) = str []) = false := by rw [decide_eq_false_iff_not, str_inj]; decide
  simp only [RS0, RS1, RS2, RS3, RS4, RS5, e1, e2, e3, e4, e5]
  refine c182 ?_; unfold T182
  refine ⟨fun vs w2 => ∃ t : Bs, vs = [stv t] ∧ t.length ≤ s.length ∧ trimZ t = trimZ s ∧ w2 = w, fun vs _ => match vs with
    | [.string b] => b.size
    | _ => 0, ⟨s, rfl, Nat.le_refl _, rfl, rfl⟩, ?_⟩
  rintro _ w2 tv ⟨t, hvs, hl, htr, rfl⟩
  cases hvs
  simp only [RS0, RS1, RS2, RS3, RS4, RS5, str_size]
  by_cases h0 : 0 < t.length
  · have d1 : decide ((0 : Int) < (t.length : Int)) = true := by rw [decide_eq_true_eq]; omega
    have e5 : IntKind.i64.wrap ((t.length : Int) - 1) = ((t.length - 1 : Nat) : Int) := by rw [wrap_id] <;> omega
    have hx : t[t.length - 1]? = some t[t.length - 1] := List.getElem?_eq_getElem (by omega)
    generalize t[t.length - 1] = b at hx
    have hlast := trimZ_last hx
    have e6 := ixS_str hx .i64
    have e7 : ((b.toNat : Int) == 0) = decide (b = 0) := by
      rw [beq_dec, decide_eq_decide]
      constructor
      · intro e
        exact UInt8.toNat_inj.1 (by simpa using (show b.toNat = 0 by omega))
      · rintro rfl; rfl
    have e8 := slS_hi (l := t) (i := t.length - 1) (by omega) .i64
    simp only [RS0, RS1, RS2, RS3, RS4, RS5, d1, str_size, e5, e6, e7]
    cases hb : decide (b = 0) with
    | true =>
      rw [hb, cond_true] at hlast
      simp only [RS0, RS1, RS2, RS3, RS4, RS5, str_size, e5, e8]
      refine ⟨⟨t.take (t.length - 1), rfl, by rw [List.length_take]; omega, by rw [← hlast]; exact htr, (by trivial)⟩, ?_⟩
      simp only [str_size, List.length_take]; omega
    | false =>
      rw [hb, cond_false] at hlast
      simp only [RS0, RS1, RS2, RS3, RS4, RS5]
      exact ⟨by rw [← htr, hlast], (by trivial)⟩
  · have ht0 : t = [] := List.eq_nil_of_length_eq_zero (by omega)
    subst ht0
    have d1 : decide ((0 : Int) < (([] : Bs).length : Int)) = false := by decide
    simp only [RS0, RS1, RS2, RS3, RS4, RS5, d1]
    exact ⟨by rw [← htr]; rfl, (by trivial)⟩

end Go.Proofs.YthbngnlmgplijaaGreatDoor

namespace Go.Proofs.YthbngnlmgplijaaGreatDoor
open Go.Al Go.Proofs
set_option linter.unusedVariables false
set_option linter.unusedSimpArgs false
set_option linter.unusedSectionVars false
set_option maxRecDepth 100000

theorem bld147 (a1 a2 : Option Addr) (n1 c1 n2 c2 : Nat) (w : World) : (Instr.build 227 #[(0, .slice a1 n1 c1), (1, .slice a2 n2 c2)]).run Tryz.prog w = .ok (.agg #[.slice a1 n1 c1, .slice a2 n2 c2]) w := by kernel_rfl
theorem im_body {w : World} {x : Nat} {m : Int} {p : Pg} {u : Value} (h : w.heap[x]? = some (.cells (imC (m, p, u)).toArray 118)) : cellsV w ⟨x, 1, none⟩ 6 = some (.agg (pcs p u)) := by
  refine cellsV_of (l := (pcs p u).toList) rfl (fun j hj => ?_)
  have : j = 0 ∨ j = 1 ∨ j = 2 ∨ j = 3 ∨ j = 4 ∨ j = 5 := by omega
  rcases this with rfl | rfl | rfl | rfl | rfl | rfl <;> (rw [add_none, cell_at h]; rfl)
theorem numsB_app (a b : List Int) : numsB (a ++ b) = numsB a ++ numsB b := by simp [numsB]
theorem numsB2 (a b : Int) : numsB [a, b] = prB (a, b) := by simp [numsB, prB]
theorem prB_len {p : Int × Int} (h1 : p.1 ≤ 9223372036854775807) (h2 : p.2 ≤ 9223372036854775807) : (prB p).length ≤ 18 := by
  have := encI_len h1
  have := encI_len h2
  unfold prB
  rw [List.length_append]; omega
set_option maxHeartbeats 16000000 in
theorem inner_spec {w : World} {cs : Array Value} {r : Rc} (h : RcAs w cs r) (hlong : longR r = false) : Cl Tryz.prog 158 [.agg cs] w fun v w' => v = .tuple #[stv (rInner r).1, iv (rInner r).2] ∧ Fm (fun _ => False) w w' := by
  obtain ⟨vs, vm, vi, vp, vt, hcs, _, hs, hm, hi, hp, ht⟩ := h.ex
  simp only [longR, Bool.or_eq_false_iff, decide_eq_false_iff_not] at hlong
  obtain ⟨⟨⟨⟨⟨l1, l2⟩, l3⟩, l4⟩, l5⟩, l6⟩ := hlong
  have hins := h.ins
  have hk8 := h.kin
  have n9 : ∀ n ∈ [r.lsn, r.prev, r.next, r.redo, r.xid, r.page, r.slot, r.old, r.new], In n := fun n hn => hins n (by unfold rNums; simp only [List.mem_append]; exact .inl (.inl (.inl (.inl (.inl hn)))))
  have nsl : ∀ n ∈ r.slots, n ≤ 9223372036854775807 := fun n hn => (hins n (by unfold rNums; simp only [List.mem_append]; exact .inl (.inl (.inl (.inl (.inr hn)))))).2
  have nmo : ∀ n ∈ r.more, n ≤ 9223372036854775807 := fun n hn => (hins n (by unfold rNums; simp only [List.mem_append]; exact .inl (.inl (.inl (.inr hn))))).2
  have nim : ∀ m ∈ r.imgs, m.1 ≤ 9223372036854775807 := fun m hm => (hins m.1 (by unfold rNums; simp only [List.mem_append]; exact .inl (.inl (.inr (List.mem_map.2 ⟨m, hm, rfl⟩))))).2
  have npg : ∀ m ∈ r.pages, m.1 ≤ 9223372036854775807 ∧ m.2 ≤ 9223372036854775807 := fun m hm => ⟨(hins m.1 (by unfold rNums; simp only [List.mem_append]; exact .inl (.inr (mem_prs hm).1))).2, (hins m.2 (by unfold rNums; simp only [List.mem_append]; exact .inl (.inr (mem_prs hm).2))).2⟩
  have ntx : ∀ m ∈ r.txns, m.1 ≤ 9223372036854775807 ∧ m.2 ≤ 9223372036854775807 := fun m hm => ⟨(hins m.1 (by unfold rNums; simp only [List.mem_append]; exact .inr (mem_prs hm).1)).2, (hins m.2 (by unfold rNums; simp only [List.mem_append]; exact .inr (mem_prs hm).2)).2⟩
  have nhd : ∀ n ∈ headL r, n ≤ 9223372036854775807 := fun n hn => by
    unfold headL at hn
    simp only [List.mem_cons, List.not_mem_nil, or_false] at hn
    rcases hn with rfl | rfl | rfl | rfl | rfl | rfl | rfl | rfl | rfl | rfl <;> first | omega | exact (n9 _ (by simp)).2
  refine c158 ?_; unfold T158
  refine New_any ?_
  intro x1 w1 hx1 hs1 hw1 hf1
  have hR1 : RB w1 x1 r vs vm vi vp vt := ⟨by rw [← hcs]; exact hw1⟩
  have hlt1 := hR1.lt
  -- whatever the writer turns, the record's lists stay
  have kS : ∀ {w'}, Fm (fun _ => False) w1 w' → CellsAt w' vs r.slots.length 1 (r.slots.map iv) := fun hf => hs.keep (Fmf hf1 hf) (fun _ _ e => e)
  have kM : ∀ {w'}, Fm (fun _ => False) w1 w' → CellsAt w' vm r.more.length 1 (r.more.map iv) := fun hf => hm.keep (Fmf hf1 hf) (fun _ _ e => e)
  have kI : ∀ {w'}, Fm (fun _ => False) w1 w' → ImAs w' vi r.imgs := fun hf => hi.keep (Fmf hf1 hf)
  have kP : ∀ {w'}, Fm (fun _ => False) w1 w' → CellsAt w' vp r.pages.length 2 (r.pages.flatMap pc2) := fun hf => hp.keep (Fmf hf1 hf) (fun _ _ e => e)
  have kT : ∀ {w'}, Fm (fun _ => False) w1 w' → CellsAt w' vt r.txns.length 2 (r.txns.flatMap pc2) := fun hf => ht.keep (Fmf hf1 hf) (fun _ _ e => e)
  have kR : ∀ {w'}, Fm (fun _ => False) w1 w' → RB w' x1 r vs vm vi vp vt := fun hf => hR1.keep hf (fun e => e)
  have blt : ∀ {v : Value} {ns : List Int}, CellsAt w v ns.length 1 (ns.map iv) → ns ≠ [] → ∀ g, blockOf v = some g → g < w1.heap.size := fun hc hne g hg => by
    have := hc.blt (by simpa using hne) g hg
    omega
  refine WS.new (Fm.refl _ w1) ?_
  intro w2 rw h2 hf2
  have hR2 := kR hf2
  have ek : IntKind.i64.wrap r.kind = r.kind := by rw [wrap_id]; omega
  have ekc : cvI .i64 (.int .u8 r.kind) = some (iv r.kind) := by
    show some (Value.int .i64 (IntKind.i64.wrap r.kind)) = _
    rw [ek]
  simp only [RS0, RS1, RS2, RS3, RS4, RS5, hR2.c0, hR2.c1, hR2.c2, hR2.c3, hR2.c4, hR2.c5, hR2.c6, hR2.c7, hR2.c8, hR2.c9, ekc]
  refine h2.lit (bs47_10 _ _ _ _ _ _ _ _ _ _ _) rfl (fun n hn => nhd n hn) (by simp) ?_
  intro u3 w3 h3
  replace h3 : WS w1 w3 rw (numsB (headL r)) := by have := h3; rw [List.nil_append] at this; exact this
  have hl3 : (numsB (headL r)).length ≤ 90 := by have := numsB_len nhd; exact this
  have hR3 := kR h3.fm
  simp only [RS0, RS1, RS2, RS3, RS4, RS5, hR3.c10]
  refine h3.text (by omega) (by omega) ?_
  intro u4 w4 h4
  have hR4 := kR h4.fm
  have hl4 : (numsB (headL r) ++ txtB r.data).length ≤ 700 := by
    have := encI_len (n := r.data.length) (by omega)
    rw [List.length_append]; unfold txtB; rw [List.length_append]; omega
  simp only [RS0, RS1, RS2, RS3, RS4, RS5, hR4.c11, hR4.c12]
  have hsv : ∃ a c, vs = .slice a r.slots.length c := by obtain ⟨⟨a, c, e, _⟩, _⟩ := hs; exact ⟨a, c, e⟩
  have hmv : ∃ a c, vm = .slice a r.more.length c := by obtain ⟨⟨a, c, e, _⟩, _⟩ := hm; exact ⟨a, c, e⟩
  have hbld : (Instr.build 227 #[(0, vs), (1, vm)]).run Tryz.prog w4 = .ok (.agg #[vs, vm]) w4 := by
    obtain ⟨a, c, rfl⟩ := hsv
    obtain ⟨a', c', rfl⟩ := hmv
    exact bld147 _ _ _ _ _ _ _
  refine RunS_ok hbld ?_
  generalize hB4 : numsB (headL r) ++ txtB r.data = B4 at h4 hl4
  refine ⟨fun vl w' => (vl = [iv 0] ∧ WS w1 w' rw B4) ∨ (vl = [iv 1] ∧ WS w1 w' rw (B4 ++ listB r.slots)) ∨ (vl = [iv 2] ∧ WS w1 w' rw (B4 ++ listB r.slots ++ listB r.more)), fun vl _ => (2 - nth vl 0).toNat, .inl ⟨rfl, h4⟩, ?_⟩
  have hls : (listB r.slots).length ≤ 2400 := by
    have := numsB_len nsl
    have := encI_len (n := r.slots.length) (by omega)
    unfold listB; rw [List.length_append]; omega
  have hlm : (listB r.more).length ≤ 2400 := by
    have := numsB_len nmo
    have := encI_len (n := r.more.length) (by omega)
    unfold listB; rw [List.length_append]; omega
  rintro _ w5 iv5 (⟨hvl, h5⟩ | ⟨hvl, h5⟩ | ⟨hvl, h5⟩)
  · cases hvl
    have d1 : decide ((0 : Int) < 2) = true := by decide
    have e1 : ixG false 2 1 (.agg #[vs, vm]) (iv 0) = some vs := rfl
    have e2 : IntKind.i64.wrap (0 + 1) = 1 := rfl
    simp only [RS0, RS1, RS2, RS3, RS4, RS5, d1, e1, (kS h5.fm).lenV]
    refine h5.lit (bs47_1 _ _) rfl (by intro n hn; simp at hn; omega) (by omega) ?_
    intro u6 w6 h6
    rw [numsB1] at h6
    have := encI_len (n := r.slots.length) (by omega)
    refine h6.num (kS h6.fm) (blt hs) nsl (by rw [List.length_append]; omega) ?_
    intro u7 w7 h7
    simp only [RS0, RS1, RS2, RS3, RS4, RS5, e2]
    exact ⟨.inr (.inl ⟨(by trivial), by have := h7; rw [List.append_assoc] at this; exact this⟩), by simp [nth, iv]⟩
  · cases hvl
    have d1 : decide ((1 : Int) < 2) = true := by decide
    have e1 : ixG false 2 1 (.agg #[vs, vm]) (iv 1) = some vm := rfl
    have e2 : IntKind.i64.wrap (1 + 1) = 2 := rfl
    simp only [RS0, RS1, RS2, RS3, RS4, RS5, d1, e1, (kM h5.fm).lenV]
    refine h5.lit (bs47_1 _ _) rfl (by intro n hn; simp at hn; omega) (by rw [List.length_append]; omega) ?_
    intro u6 w6 h6
    rw [numsB1] at h6
    have := encI_len (n := r.more.length) (by omega)
    refine h6.num (kM h6.fm) (blt hm) nmo (by simp only [List.length_append]; omega) ?_
    intro u7 w7 h7
    simp only [RS0, RS1, RS2, RS3, RS4, RS5, e2]
    exact ⟨.inr (.inr ⟨(by trivial), by have := h7; rw [List.append_assoc (B4 ++ listB r.slots)] at this; exact this⟩), by simp [nth, iv]⟩
  · cases hvl
    have d1 : decide ((2 : Int) < 2) = false := by decide
    have hR5 := kR h5.fm
    have hl5 : (B4 ++ listB r.slots ++ listB r.more).length ≤ 6000 := by simp only [List.length_append]; omega
    generalize hB5 : B4 ++ listB r.slots ++ listB r.more = B5 at h5 hl5
    simp only [RS0, RS1, RS2, RS3, RS4, RS5, d1, hR5.c13, (kI h5.fm).lenV]
    refine h5.lit (bs47_1 _ _) rfl (by intro n hn; simp at hn; omega) (by omega) ?_
    intro u6 w6 h6
    rw [numsB1] at h6
    have hR6 := kR h6.fm
    have hl6 : (B5 ++ encI (r.imgs.length : Int)).length ≤ 6010 := by
      have := encI_len (n := r.imgs.length) (by omega)
      rw [List.length_append]; omega
    generalize hB6 : B5 ++ encI (r.imgs.length : Int) = B6 at h6 hl6
    simp only [RS0, RS1, RS2, RS3, RS4, RS5, hR6.c13, (kI h6.fm).lenV]
    refine ⟨fun vl w' => ∃ i : Nat, vl = [iv i] ∧ i ≤ r.imgs.length ∧ WS w1 w' rw (B6 ++ (r.imgs.take i).flatMap imgB) ∧ (B6 ++ (r.imgs.take i).flatMap imgB).length ≤ 6010 + 600 * i ∧ imgErr r.imgs = imgErr (r.imgs.drop i), fun vl _ => (r.imgs.length - nth vl 0).toNat, ⟨0, rfl, by omega, by simpa using h6, by simpa using hl6, rfl⟩, ?_⟩
    rintro _ w7 iv7 ⟨i, hvl, hile, h7, hl7, hie⟩
    cases hvl
    by_cases hlt : i < r.imgs.length
    · have hx : r.imgs[i]? = some r.imgs[i] := List.getElem?_eq_getElem hlt
      have hdr := List.drop_eq_getElem_cons hlt
      generalize r.imgs[i] = m at hx hdr
      rw [hdr] at hie
      have hmm := List.mem_of_getElem? hx
      obtain ⟨ad, u, hix, hcv, hone, hpg⟩ := (kI h7.fm).ld hx
      have d2 : decide ((i : Int) < (r.imgs.length : Int)) = true := by rw [decide_eq_true_eq]; omega
      have e1 : IntKind.i64.wrap ((i : Int) + 1) = ((i + 1 : Nat) : Int) := by rw [wrap_id] <;> omega
      simp only [RS0, RS1, RS2, RS3, RS4, RS5, d2, hix, hcv]
      refine New_any ?_
      intro x8 w8 hx8 hs8 hw8 hf8
      refine St_all hw8 rfl (imC_len _) (by intro q hq; simp [imC, pcs] at hq; rcases hq with rfl | rfl | rfl | rfl | rfl | rfl | rfl <;> first | rfl | exact hone) ?_
      intro w9 hw9 hs9 hf9
      have hf79 : Fm (fun _ => False) w7 w9 := Fm.own hf8 hf9 (by rintro y rfl; omega)
      have h9 := h7.keep hf79
      simp only [RS0, RS1, RS2, RS3, RS4, RS5, im_body hw9]
      refine (encode_spec (hpg.keep hf79)).mono ?_
      rintro _ w10 ⟨rfl, hf10⟩
      have h10 := h9.keep hf10
      have he : encR m.2 = .tuple #[stv (pEnc m.2).1, iv (pErr m.2)] := by unfold encR; rw [pEnc_err]
      rw [he]
      simp only [RS0, RS1, RS2, RS3, RS4, RS5, bne_dec]
      rw [show imgErr (m :: r.imgs.drop (i + 1)) = bif decide (pErr m.2 = 0) then imgErr (r.imgs.drop (i + 1)) else pErr m.2 from rfl] at hie
      cases hz : decide (pErr m.2 = 0) with
      | false =>
        rw [hz, cond_false] at hie
        have hz' : decide (imgErr r.imgs = 0) = false := by rw [hie]; exact hz
        simp only [RS0, RS1, RS2, RS3, RS4, RS5]
        refine ⟨?_, Fmf hf1 h10.fm⟩
        unfold rInner
        rw [hz', cond_false, hie]
        rfl
      | true =>
        rw [hz, cond_true] at hie
        have h0 : pErr m.2 = 0 := by simpa using hz
        have c10 : w10.cell? ⟨x8, 0, none⟩ = some (iv m.1) := by rw [cell_at (hf10.heap hw9 (fun e => e))]; rfl
        simp only [RS0, RS1, RS2, RS3, RS4, RS5, c10]
        refine h10.lit (bs47_1 _ _) rfl (by intro n hn; simp at hn; subst hn; exact nim m hmm) (by omega) ?_
        intro u11 w11 h11
        rw [numsB1] at h11
        have hel := encI_len (nim m hmm)
        have hlen := pEnc_len h0
        obtain ⟨_, htl⟩ := trim_pad hlen
        refine (trimr_spec w11 (pEnc m.2).1 (by omega)).mono ?_
        rintro _ w12 ⟨rfl, rfl⟩
        refine h11.text (by omega) (by rw [List.length_append]; omega) ?_
        intro u13 w13 h13
        simp only [RS0, RS1, RS2, RS3, RS4, RS5, e1]
        have e2 : B6 ++ (r.imgs.take (i + 1)).flatMap imgB = B6 ++ (r.imgs.take i).flatMap imgB ++ encI m.1 ++ txtB (trimZ (pEnc m.2).1) := by rw [List.take_add_one, hx]; simp [imgB]
        refine ⟨⟨i + 1, rfl, by omega, by rw [e2]; exact h13, ?_, hie⟩, by simp only [nth_0]; omega⟩
        rw [e2]
        have := encI_len (n := (trimZ (pEnc m.2).1).length) (by omega)
        simp only [List.length_append] at hl7 ⊢
        unfold txtB
        rw [List.length_append]
        omega
    · have hie2 : i = r.imgs.length := by omega
      subst hie2
      rw [List.drop_length] at hie
      have d2 : decide (((r.imgs.length : Nat) : Int) < (r.imgs.length : Int)) = false := by simp
      rw [List.take_length] at h7 hl7
      have hl7' : (B6 ++ r.imgs.flatMap imgB).length ≤ 9000 := by omega
      generalize hB7 : B6 ++ r.imgs.flatMap imgB = B7 at h7 hl7'
      have hR7 := kR h7.fm
      simp only [RS0, RS1, RS2, RS3, RS4, RS5, d2, hR7.c14, (kP h7.fm).lenV]
      refine h7.lit (bs47_1 _ _) rfl (by intro n hn; simp at hn; omega) (by omega) ?_
      intro u16 w16 h16
      rw [numsB1] at h16
      have hR16 := kR h16.fm
      have hl16 : (B7 ++ encI (r.pages.length : Int)).length ≤ 9100 := by
        have := encI_len (n := r.pages.length) (by omega)
        rw [List.length_append]; omega
      generalize hB16 : B7 ++ encI (r.pages.length : Int) = B16 at h16 hl16
      simp only [RS0, RS1, RS2, RS3, RS4, RS5, hR16.c14, (kP h16.fm).lenV]
      refine ⟨fun vl w' => ∃ i : Nat, vl = [iv i] ∧ i ≤ r.pages.length ∧ WS w1 w' rw (B16 ++ (r.pages.take i).flatMap prB) ∧ (B16 ++ (r.pages.take i).flatMap prB).length ≤ 9100 + 18 * i, fun vl _ => (r.pages.length - nth vl 0).toNat, ⟨0, rfl, by omega, by simpa using h16, by simpa using hl16⟩, ?_⟩
      rintro _ w17 iv17 ⟨i, hvl, hile, h17, hl17⟩
      cases hvl
      by_cases hlt : i < r.pages.length
      · have hx : r.pages[i]? = some r.pages[i] := List.getElem?_eq_getElem hlt
        generalize r.pages[i] = m at hx
        have hmm := List.mem_of_getElem? hx
        obtain ⟨ad, hix, hcv, _⟩ := cells_ld pc2_len (by omega) (kP h17.fm) hx
        have d2 : decide ((i : Int) < (r.pages.length : Int)) = true := by rw [decide_eq_true_eq]; omega
        have e1 : IntKind.i64.wrap ((i : Int) + 1) = ((i + 1 : Nat) : Int) := by rw [wrap_id] <;> omega
        simp only [RS0, RS1, RS2, RS3, RS4, RS5, d2, hix, hcv]
        refine New_any ?_
        intro x8 w8 hx8 hs8 hw8 hf8
        refine St_all hw8 rfl (pc2_len _) (by intro q hq; simp [pc2] at hq; rcases hq with rfl | rfl <;> rfl) ?_
        intro w9 hw9 hs9 hf9
        have hf79 : Fm (fun _ => False) w17 w9 := Fm.own hf8 hf9 (by rintro y rfl; omega)
        have h9 := h17.keep hf79
        have c0 : w9.cell? ⟨x8, 0, none⟩ = some (iv m.1) := by rw [cell_at hw9]; rfl
        have c1 : w9.cell? ⟨x8, 1, none⟩ = some (iv m.2) := by rw [cell_at hw9]; rfl
        simp only [RS0, RS1, RS2, RS3, RS4, RS5, c0, c1]
        obtain ⟨hm1, hm2⟩ := npg m hmm
        refine h9.lit (bs47_2 _ _ _) rfl (by intro n hn; simp at hn; rcases hn with rfl | rfl <;> assumption) (by omega) ?_
        intro u11 w11 h11
        rw [numsB2] at h11
        simp only [RS0, RS1, RS2, RS3, RS4, RS5, e1]
        have e2 : B16 ++ (r.pages.take (i + 1)).flatMap prB = B16 ++ (r.pages.take i).flatMap prB ++ prB (m.1, m.2) := by rw [List.take_add_one, hx]; simp
        refine ⟨⟨i + 1, rfl, by omega, by rw [e2]; exact h11, ?_⟩, by simp only [nth_0]; omega⟩
        rw [e2]
        have := prB_len (p := (m.1, m.2)) hm1 hm2
        rw [List.length_append]
        omega
      have hie3 : i = r.pages.length := by omega
      subst hie3
      have d17 : decide (((r.pages.length : Nat) : Int) < (r.pages.length : Int)) = false := by simp
      rw [List.take_length] at h17 hl17
      have hl17' : (B16 ++ r.pages.flatMap prB).length ≤ 160000 := by omega
      generalize hB17 : B16 ++ r.pages.flatMap prB = B17 at h17 hl17'
      have hR17 := kR h17.fm
      simp only [RS0, RS1, RS2, RS3, RS4, RS5, d17, hR17.c15, (kT h17.fm).lenV]
      refine h17.lit (bs47_1 _ _) rfl (by intro n hn; simp at hn; omega) (by omega) ?_
      intro u26 w26 h26
      rw [numsB1] at h26
      have hR26 := kR h26.fm
      have hl26 : (B17 ++ encI (r.txns.length : Int)).length ≤ 160100 := by
        have := encI_len (n := r.txns.length) (by omega)
        rw [List.length_append]; omega
      generalize hB26 : B17 ++ encI (r.txns.length : Int) = B26 at h26 hl26
      simp only [RS0, RS1, RS2, RS3, RS4, RS5, hR26.c15, (kT h26.fm).lenV]
      refine ⟨fun vl w' => ∃ i : Nat, vl = [iv i] ∧ i ≤ r.txns.length ∧ WS w1 w' rw (B26 ++ (r.txns.take i).flatMap prB) ∧ (B26 ++ (r.txns.take i).flatMap prB).length ≤ 160100 + 18 * i, fun vl _ => (r.txns.length - nth vl 0).toNat, ⟨0, rfl, by omega, by simpa using h26, by simpa using hl26⟩, ?_⟩
      rintro _ w27 iv27 ⟨i, hvl, hile, h27, hl27⟩
      cases hvl
      by_cases hlt : i < r.txns.length
      · have hx : r.txns[i]? = some r.txns[i] := List.getElem?_eq_getElem hlt
        generalize r.txns[i] = m at hx
        have hmm := List.mem_of_getElem? hx
        obtain ⟨ad, hix, hcv, _⟩ := cells_ld pc2_len (by omega) (kT h27.fm) hx
        have d2 : decide ((i : Int) < (r.txns.length : Int)) = true := by rw [decide_eq_true_eq]; omega
        have e1 : IntKind.i64.wrap ((i : Int) + 1) = ((i + 1 : Nat) : Int) := by rw [wrap_id] <;> omega
        simp only [RS0, RS1, RS2, RS3, RS4, RS5, d2, hix, hcv]
        refine New_any ?_
        intro x8 w8 hx8 hs8 hw8 hf8
        refine St_all hw8 rfl (pc2_len _) (by intro q hq; simp [pc2] at hq; rcases hq with rfl | rfl <;> rfl) ?_
        intro w9 hw9 hs9 hf9
        have hf79 : Fm (fun _ => False) w27 w9 := Fm.own hf8 hf9 (by rintro y rfl; omega)
        have h9 := h27.keep hf79
        have c0 : w9.cell? ⟨x8, 0, none⟩ = some (iv m.1) := by rw [cell_at hw9]; rfl
        have c1 : w9.cell? ⟨x8, 1, none⟩ = some (iv m.2) := by rw [cell_at hw9]; rfl
        simp only [RS0, RS1, RS2, RS3, RS4, RS5, c0, c1]
        obtain ⟨hm1, hm2⟩ := ntx m hmm
        refine h9.lit (bs47_2 _ _ _) rfl (by intro n hn; simp at hn; rcases hn with rfl | rfl <;> assumption) (by omega) ?_
        intro u11 w11 h11
        rw [numsB2] at h11
        simp only [RS0, RS1, RS2, RS3, RS4, RS5, e1]
        have e2 : B26 ++ (r.txns.take (i + 1)).flatMap prB = B26 ++ (r.txns.take i).flatMap prB ++ prB (m.1, m.2) := by rw [List.take_add_one, hx]; simp
        refine ⟨⟨i + 1, rfl, by omega, by rw [e2]; exact h11, ?_⟩, by simp only [nth_0]; omega⟩
        rw [e2]
        have := prB_len (p := (m.1, m.2)) hm1 hm2
        rw [List.length_append]
        omega
      have hie3 : i = r.txns.length := by omega
      subst hie3
      have d27 : decide (((r.txns.length : Nat) : Int) < (r.txns.length : Int)) = false := by simp
      rw [List.take_length] at h27 hl27
      have hl27' : (B26 ++ r.txns.flatMap prB).length ≤ 180000 := by omega
      generalize hB27 : B26 ++ r.txns.flatMap prB = B27 at h27 hl27'
      have hR27 := kR h27.fm
      simp only [RS0, RS1, RS2, RS3, RS4, RS5, d27]
      refine (bbytes_spec h27.wr.1).mono ?_
      rintro _ w30 ⟨rfl, rfl⟩
      have hbody : rBody r = B27 := by
        rw [← hB27, ← hB26, ← hB17, ← hB16, ← hB7, ← hB6, ← hB5, ← hB4]
        rfl
      have hie0 : decide (imgErr r.imgs = 0) = true := by rw [hie]; rfl
      have d9 : decide ((65535 : Int) < (B27.length : Int)) = decide (65535 < B27.length) := by rw [decide_eq_decide]; omega
      unfold rInner
      rw [hie0, cond_true, hbody]
      simp only [RS0, RS1, RS2, RS3, RS4, RS5, str_size, d9]
      cases hbig : decide (65535 < B27.length) with
      | true =>
        simp only [RS0, RS1, RS2, RS3, RS4, RS5, cond_true]
        exact ⟨(by trivial), Fmf hf1 h27.fm⟩
      | false =>
        simp only [RS0, RS1, RS2, RS3, RS4, RS5, cond_false]
        exact ⟨(by trivial), Fmf hf1 h27.fm⟩

set_option maxHeartbeats 4000000 in
theorem checked_spec {w : World} {cs : Array Value} {r : Rc} (h : RcAs w cs r) : Cl Tryz.prog 82 [.agg cs] w fun v w' => v = .tuple #[stv (rCheck r).1, iv (rCheck r).2] ∧ Fm (fun _ => False) w w' := by
  obtain ⟨vs, vm, vi, vp, vt, hcs, _, hs, hm, hi, hp, ht⟩ := h.ex
  have hk8 := h.kin
  refine c82 ?_; unfold T82
  refine New_any ?_
  intro x1 w1 hx1 hs1 hw1 hf1
  have hR1 : RB w1 x1 r vs vm vi vp vt := ⟨by rw [← hcs]; exact hw1⟩
  have h1 := h.keep hf1
  rw [hcs] at h1
  unfold rCheck
  simp only [RS0, RS1, RS2, RS3, RS4, RS5, hR1.c3]
  cases e1 : decide (r.kind < 1) with
  | true =>
    simp only [RS0, RS1, RS2, RS3, RS4, RS5, Bool.true_or, cond_true]
    exact ⟨(by trivial), hf1⟩
  | false =>
  simp only [RS0, RS1, RS2, RS3, RS4, RS5, hR1.c3, Bool.false_or]
  cases e2 : decide (13 < r.kind) with
  | true =>
    simp only [RS0, RS1, RS2, RS3, RS4, RS5, cond_true]
    exact ⟨(by trivial), hf1⟩
  | false =>
  simp only [RS0, RS1, RS2, RS3, RS4, RS5, cond_false, hR1.c0]
  cases e3 : decide (r.lsn < 1) with
  | true =>
    simp only [RS0, RS1, RS2, RS3, RS4, RS5, Bool.true_or, cond_true]
    exact ⟨(by trivial), hf1⟩
  | false =>
  simp only [RS0, RS1, RS2, RS3, RS4, RS5, hR1.all, Bool.false_or]
  refine (numbers_spec h1).mono ?_
  rintro v2 w2 ⟨ho2, hf2⟩
  refine (contains_spec (CellsAt.of_own ho2)).mono ?_
  rintro _ w3 ⟨rfl, rfl⟩
  have hF2 := Fmf hf1 hf2
  have hR2 := hR1.keep hf2 (fun e => e)
  cases e4 : (rNums r).any badN with
  | true =>
    simp only [RS0, RS1, RS2, RS3, RS4, RS5, cond_true]
    exact ⟨(by trivial), hF2⟩
  | false =>
  have m1 : decide ((512 : Int) < (r.data.length : Int)) = decide (512 < r.data.length) := by rw [decide_eq_decide]; omega
  have m2 : decide ((255 : Int) < (r.slots.length : Int)) = decide (255 < r.slots.length) := by rw [decide_eq_decide]; omega
  have m3 : decide ((255 : Int) < (r.more.length : Int)) = decide (255 < r.more.length) := by rw [decide_eq_decide]; omega
  have m4 : decide ((4 : Int) < (r.imgs.length : Int)) = decide (4 < r.imgs.length) := by rw [decide_eq_decide]; omega
  have m5 : decide ((8192 : Int) < (r.pages.length : Int)) = decide (8192 < r.pages.length) := by rw [decide_eq_decide]; omega
  have m6 : decide ((1024 : Int) < (r.txns.length : Int)) = decide (1024 < r.txns.length) := by rw [decide_eq_decide]; omega
  simp only [RS0, RS1, RS2, RS3, RS4, RS5, cond_false, hR2.c10, str_size, m1]
  have long : ∀ {w'}, longR r = true → Fm (fun _ => False) w w' → Value.tuple #[.string (ByteArray.mk #[]), .int .i64 3] = .tuple #[stv (bif longR r then (([] : Bs), (3 : Int)) else rInner r).1, iv (bif longR r then (([] : Bs), (3 : Int)) else rInner r).2] ∧ Fm (fun _ => False) w w' := fun hl hf => ⟨by rw [hl]; rfl, hf⟩
  cases q1 : decide (512 < r.data.length) with
  | true => simp only [RS0, RS1, RS2, RS3, RS4, RS5]; exact long (by simp [longR, q1]) hF2
  | false =>
  simp only [RS0, RS1, RS2, RS3, RS4, RS5, hR2.c11, hs.lenV, m2]
  cases q2 : decide (255 < r.slots.length) with
  | true => simp only [RS0, RS1, RS2, RS3, RS4, RS5]; exact long (by simp [longR, q2]) hF2
  | false =>
  simp only [RS0, RS1, RS2, RS3, RS4, RS5, hR2.c12, hm.lenV, m3]
  cases q3 : decide (255 < r.more.length) with
  | true => simp only [RS0, RS1, RS2, RS3, RS4, RS5]; exact long (by simp [longR, q3]) hF2
  | false =>
  simp only [RS0, RS1, RS2, RS3, RS4, RS5, hR2.c13, hi.lenV, m4]
  cases q4 : decide (4 < r.imgs.length) with
  | true => simp only [RS0, RS1, RS2, RS3, RS4, RS5]; exact long (by simp [longR, q4]) hF2
  | false =>
  simp only [RS0, RS1, RS2, RS3, RS4, RS5, hR2.c14, hp.lenV, m5]
  cases q5 : decide (8192 < r.pages.length) with
  | true => simp only [RS0, RS1, RS2, RS3, RS4, RS5]; exact long (by simp [longR, q5]) hF2
  | false =>
  simp only [RS0, RS1, RS2, RS3, RS4, RS5, hR2.c15, ht.lenV, m6]
  cases q6 : decide (1024 < r.txns.length) with
  | true => simp only [RS0, RS1, RS2, RS3, RS4, RS5]; exact long (by simp [longR, q6]) hF2
  | false =>
  have hl : longR r = false := by unfold longR; rw [q1, q2, q3, q4, q5, q6]; rfl
  simp only [RS0, RS1, RS2, RS3, RS4, RS5, hR2.all]
  refine (inner_spec (h1.keep hf2) hl).mono ?_
  rintro _ w4 ⟨rfl, hf4⟩
  simp only [RS0, RS1, RS2, RS3, RS4, RS5]
  refine ⟨?_, Fmf hF2 hf4⟩
  rw [hl]
  rfl
theorem rCheck_len (r : Rc) : (rCheck r).1.length ≤ 65535 := by
  unfold rCheck
  cases decide (r.kind < 1) || decide (13 < r.kind) with
  | true => simp
  | false =>
  cases decide (r.lsn < 1) || (rNums r).any badN with
  | true => simp
  | false =>
  cases longR r with
  | true => simp
  | false =>
  simp only [cond_false]
  unfold rInner
  cases decide (imgErr r.imgs = 0) with
  | false => simp
  | true =>
  cases hb : decide (65535 < (rBody r).length) with
  | true => simp
  | false =>
    rw [decide_eq_false_iff_not] at hb
    simp only [cond_true, cond_false]
    omega
set_option maxHeartbeats 1000000 in
theorem renc_spec {w : World} {cs : Array Value} {r : Rc} (h : RcAs w cs r) : Cl Tryz.prog 89 [.agg cs] w fun v w' => v = .tuple #[stv (rEnc r).1, iv (rEnc r).2] ∧ Fm (fun _ => False) w w' := by
  refine c89 ?_; unfold T89
  refine New_any ?_
  intro x1 w1 hx1 hs1 hw1 hf1
  simp only [RS0, RS1, RS2, RS3, RS4, RS5, cellsV_blk hw1 h.size]
  refine (checked_spec (h.keep hf1)).mono ?_
  rintro _ w2 ⟨rfl, hf2⟩
  have hF2 := Fmf hf1 hf2
  have hlen := rCheck_len r
  unfold rEnc
  simp only [RS0, RS1, RS2, RS3, RS4, RS5, bne_dec]
  cases hz : decide ((rCheck r).2 = 0) with
  | false =>
    simp only [RS0, RS1, RS2, RS3, RS4, RS5, cond_false]
    exact ⟨(by trivial), hF2⟩
  | true =>
  generalize (rCheck r).1 = s at hlen
  simp only [RS0, RS1, RS2, RS3, RS4, RS5, cond_true, str_size]
  refine (big_spec w2 (by omega) 4).mono ?_
  rintro _ w3 ⟨rfl, hf3⟩
  refine (sum_spec w3 s (by omega)).mono ?_
  rintro _ w4 ⟨rfl, rfl⟩
  obtain ⟨q1, q2⟩ := crc_in s
  simp only [RS0, RS1, RS2, RS3, RS4, RS5, cvI_int, q2]
  refine (big_spec w4 q1 4).mono ?_
  rintro _ w5 ⟨rfl, hf5⟩
  have g1 : bigB (s.length : Nat) 4 = beN 4 s.length := bigB_of (n := s.length) (w := 4) (by omega) (by omega)
  have g2 : bigB (crc s : Nat) 4 = beN 4 (crc s) := bigB_of (n := crc s) (w := 4) (by omega) (by omega)
  rw [g1, g2, sadd (by rw [beN_len, beN_len]; omega)]
  try simp only [RS0, RS1, RS2, RS3, RS4, RS5]
  rw [sadd (by rw [List.length_append, beN_len, beN_len]; omega)]
  try simp only [RS0, RS1, RS2, RS3, RS4, RS5]
  exact ⟨(by trivial), Fmf hF2 (Fmf hf3 hf5)⟩

end Go.Proofs.YthbngnlmgplijaaGreatDoor

namespace Go.Proofs.YthbngnlmgplijaaGreatDoor
open Go.Al Go.Proofs
set_option maxRecDepth 100000
set_option linter.unusedVariables false
set_option linter.unusedSimpArgs false
def T86 (k : KV) (r0 : Value) (w : World) : Prop :=
 New (Value.cells r0) 28 w fun r1 w2 =>
 Pu (faV 3 r1) fun t3 =>
 Ld w2 t3 fun t4 w5 =>
 Pu (binV (.int .u8) .lss t4 (.int .u8 1)) fun t6 =>
 Gd (isB false t6) (fun kk => Pu (faV 3 r1) fun vv => kk vv w5) w5 fun t7 w8 =>
 Gd (isB false t6) (fun kk => Ld w8 t7 kk) w8 fun t9 w10 =>
 Gd (isB false t6) (fun kk => Pu (binV (.int .u8) .gtr t9 (.int .u8 13)) fun vv => kk vv w10) w10 fun t11 w12 =>
 Pu (pickV t6 (.bool true) t11) fun t13 =>
 IfB t13
 (k (.int .i64 41) w12)
 (LdN 16 w12 r1 fun t14 w15 =>
 Cl Tryz.prog 163 [t14] w15 fun t16 w17 =>
 Pu (unV .not t16) fun t18 =>
 IfB t18
 (k (.int .i64 4) w17)
 (Pu (faV 10 r1) fun t19 =>
 Ld w17 t19 fun t20 w21 =>
 Pu (lenS t20) fun t22 =>
 Pu (binV (.int .i64) .gtr t22 (.int .i64 512)) fun t23 =>
 Gd (isB false t23) (fun kk => Pu (faV 11 r1) fun vv => kk vv w21) w21 fun t24 w25 =>
 Gd (isB false t23) (fun kk => Ld w25 t24 kk) w25 fun t26 w27 =>
 Gd (isB false t23) (fun kk => Pu (lenV t26) fun vv => kk vv w27) w27 fun t28 w29 =>
 Gd (isB false t23) (fun kk => Pu (binV (.int .i64) .gtr t28 (.int .i64 255)) fun vv => kk vv w29) w29 fun t30 w31 =>
 Pu (pickV t23 (.bool true) t30) fun t32 =>
 Gd (isB false t32) (fun kk => Pu (faV 12 r1) fun vv => kk vv w31) w31 fun t33 w34 =>
 Gd (isB false t32) (fun kk => Ld w34 t33 kk) w34 fun t35 w36 =>
 Gd (isB false t32) (fun kk => Pu (lenV t35) fun vv => kk vv w36) w36 fun t37 w38 =>
 Gd (isB false t32) (fun kk => Pu (binV (.int .i64) .gtr t37 (.int .i64 255)) fun vv => kk vv w38) w38 fun t39 w40 =>
 Pu (pickV t32 (.bool true) t39) fun t41 =>
 Gd (isB false t41) (fun kk => Pu (faV 13 r1) fun vv => kk vv w40) w40 fun t42 w43 =>
 Gd (isB false t41) (fun kk => Ld w43 t42 kk) w43 fun t44 w45 =>
 Gd (isB false t41) (fun kk => Pu (lenV t44) fun vv => kk vv w45) w45 fun t46 w47 =>
 Gd (isB false t41) (fun kk => Pu (binV (.int .i64) .gtr t46 (.int .i64 4)) fun vv => kk vv w47) w47 fun t48 w49 =>
 Pu (pickV t41 (.bool true) t48) fun t50 =>
 Gd (isB false t50) (fun kk => Pu (faV 14 r1) fun vv => kk vv w49) w49 fun t51 w52 =>
 Gd (isB false t50) (fun kk => Ld w52 t51 kk) w52 fun t53 w54 =>
 Gd (isB false t50) (fun kk => Pu (lenV t53) fun vv => kk vv w54) w54 fun t55 w56 =>
 Gd (isB false t50) (fun kk => Pu (binV (.int .i64) .gtr t55 (.int .i64 8192)) fun vv => kk vv w56) w56 fun t57 w58 =>
 Pu (pickV t50 (.bool true) t57) fun t59 =>
 Gd (isB false t59) (fun kk => Pu (faV 15 r1) fun vv => kk vv w58) w58 fun t60 w61 =>
 Gd (isB false t59) (fun kk => Ld w61 t60 kk) w61 fun t62 w63 =>
 Gd (isB false t59) (fun kk => Pu (lenV t62) fun vv => kk vv w63) w63 fun t64 w65 =>
 Gd (isB false t59) (fun kk => Pu (binV (.int .i64) .gtr t64 (.int .i64 1024)) fun vv => kk vv w65) w65 fun t66 w67 =>
 Pu (pickV t59 (.bool true) t66) fun t68 =>
 IfB t68
 (k (.int .i64 3) w67)
 (∃ (I69 : List Value → World → Prop) (m70 : List Value → World → Nat), I69 [(.int .i64 0)] w67 ∧
 ∀ (g97 : Fr) (w96 : World), ∀ i73 : Value, I69 [i73] w96 →
 (Pu (faV 13 r1) fun t98 =>
 Ld w96 t98 fun t99 w100 =>
 Pu (lenV t99) fun t101 =>
 Pu (binV (.int .i64) .lss i73 t101) fun t102 =>
 IfB t102
 (Pu (faV 13 r1) fun t103 =>
 Ld w100 t103 fun t104 w105 =>
 Pu (ixV 7 t104 i73) fun t106 =>
 Pu (faV 1 t106) fun t107 =>
 LdN 6 w105 t107 fun t108 w109 =>
 Cl Tryz.prog 132 [t108] w109 fun t110 w111 =>
 Pu (extV t110 0) fun t112 =>
 Pu (extV t110 1) fun t113 =>
 Pu (binV (.int .i64) .neq t113 (.int .i64 0)) fun t114 =>
 IfB t114
 (k t113 w111)
 (Pu (binV (.int .i64) .add i73 (.int .i64 1)) fun t115 =>
 I69 [t115] w111 ∧ m70 [t115] w111 < m70 [i73] w96))
 (LdN 16 w100 r1 fun t116 w117 =>
 Cl Tryz.prog 87 [t116] w117 fun t118 w119 =>
 Pu (lenS t118) fun t120 =>
 Pu (binV (.int .i64) .gtr t120 (.int .i64 65535)) fun t121 =>
 IfB t121
 (k (.int .i64 3) w119)
 (k (.int .i64 0) w119))))))
theorem e86 (k : KV) (r0 : Value) (w : World) : K KD Tryz.prog 75 (fun j => bif Nat.beq j 8 then [3] else []) (fun j =>  none) (Tryz.f86.body.getD .skip) (retQ Tryz.prog Tryz.f86 k) (argF [r0]) w = T86 k r0 w := by kernel_rfl
theorem c86 {k : KV} {r0 : Value} {w : World} (h : T86 k r0 w) : Cl Tryz.prog 86 [r0] w k :=
  Cl_of_K KD_sound mixed Tryz.func86 (by kernel_rfl) (by kernel_rfl) ((e86 k r0 w).symm ▸ h)

def T87 (k : KV) (r0 : Value) (w : World) : Prop :=
 New (Value.cells r0) 28 w fun r1 w2 =>
 ∃ C3 : World → Prop, C3 (World.drew w2) ∧
 (Pu (faV 0 r1) fun t4 =>
 Ld (World.drew w2) t4 fun t5 w6 =>
 w6 = (World.drew w2) ∧
 Pu (faV 1 r1) fun t7 =>
 Ld (World.drew w2) t7 fun t8 w9 =>
 w9 = (World.drew w2) ∧
 Pu (faV 2 r1) fun t10 =>
 Ld (World.drew w2) t10 fun t11 w12 =>
 w12 = (World.drew w2) ∧
 Pu (faV 3 r1) fun t13 =>
 Ld (World.drew w2) t13 fun t14 w15 =>
 w15 = (World.drew w2) ∧
 Pu (cvI IntKind.i64 t14) fun t16 =>
 Pu (faV 4 r1) fun t17 =>
 Ld (World.drew w2) t17 fun t18 w19 =>
 w19 = (World.drew w2) ∧
 Pu (faV 5 r1) fun t20 =>
 Ld (World.drew w2) t20 fun t21 w22 =>
 w22 = (World.drew w2) ∧
 Pu (faV 6 r1) fun t23 =>
 Ld (World.drew w2) t23 fun t24 w25 =>
 w25 = (World.drew w2) ∧
 Pu (faV 7 r1) fun t26 =>
 Ld (World.drew w2) t26 fun t27 w28 =>
 w28 = (World.drew w2) ∧
 Pu (faV 8 r1) fun t29 =>
 Ld (World.drew w2) t29 fun t30 w31 =>
 w31 = (World.drew w2) ∧
 Pu (faV 9 r1) fun t32 =>
 Ld (World.drew w2) t32 fun t33 w34 =>
 w34 = (World.drew w2) ∧
 Pu (faV 10 r1) fun t35 =>
 ∃ t36, (∀ w37, C3 w37 → Ld w37 t35 fun t38 w39 =>
 t38 = t36 ∧ w39 = w37) ∧
 (RunS Tryz.prog (Instr.buildSlice 23 10 #[(0, t5), (1, t8), (2, t11), (3, t16), (4, t18), (5, t21), (6, t24), (7, t27), (8, t30), (9, t33)]) (World.drew w2) fun t40 w41 =>
 C3 w41 ∧
 (Cl Tryz.prog 164 [t40] w41 fun t42 w43 =>
 C3 w43 ∧
 (Cl Tryz.prog 165 [t36] w43 fun t44 w45 =>
 Pu (binV TypeDesc.string .add t42 t44) fun t46 =>
 RunS Tryz.prog (convert 9 123 t46) w45 fun t47 w48 =>
 Pu (faV 11 r1) fun t49 =>
 Ld w48 t49 fun t50 w51 =>
 Pu (lenV t50) fun t52 =>
 RunS Tryz.prog (Instr.buildSlice 23 1 #[(0, t52)]) w51 fun t53 w54 =>
 Cl Tryz.prog 164 [t53] w54 fun t55 w56 =>
 RunS Tryz.prog (Builtin.append_ #[123, 9] 123 #[t47, t55]) w56 fun t57 w58 =>
 Pu (faV 11 r1) fun t59 =>
 Ld w58 t59 fun t60 w61 =>
 Cl Tryz.prog 164 [t60] w61 fun t62 w63 =>
 RunS Tryz.prog (Builtin.append_ #[123, 9] 123 #[t57, t62]) w63 fun t64 w65 =>
 Pu (faV 12 r1) fun t66 =>
 Ld w65 t66 fun t67 w68 =>
 Pu (lenV t67) fun t69 =>
 RunS Tryz.prog (Instr.buildSlice 23 1 #[(0, t69)]) w68 fun t70 w71 =>
 Cl Tryz.prog 164 [t70] w71 fun t72 w73 =>
 RunS Tryz.prog (Builtin.append_ #[123, 9] 123 #[t64, t72]) w73 fun t74 w75 =>
 Pu (faV 12 r1) fun t76 =>
 Ld w75 t76 fun t77 w78 =>
 Cl Tryz.prog 164 [t77] w78 fun t79 w80 =>
 RunS Tryz.prog (Builtin.append_ #[123, 9] 123 #[t74, t79]) w80 fun t81 w82 =>
 Pu (faV 13 r1) fun t83 =>
 Ld w82 t83 fun t84 w85 =>
 Pu (lenV t84) fun t86 =>
 RunS Tryz.prog (Instr.buildSlice 23 1 #[(0, t86)]) w85 fun t87 w88 =>
 Cl Tryz.prog 164 [t87] w88 fun t89 w90 =>
 RunS Tryz.prog (Builtin.append_ #[123, 9] 123 #[t81, t89]) w90 fun t91 w92 =>
 ∃ (I93 : List Value → World → Prop) (m94 : List Value → World → Nat), I93 [t91, (.int .i64 0)] w92 ∧
 ∀ (g125 : Fr) (w124 : World), ∀ out96 : Value, ∀ i97 : Value, I93 [out96, i97] w124 →
 (Pu (faV 13 r1) fun t126 =>
 Ld w124 t126 fun t127 w128 =>
 Pu (lenV t127) fun t129 =>
 Pu (binV (.int .i64) .lss i97 t129) fun t130 =>
 IfB t130
 (∃ C131 : World → Prop, C131 (World.drew w128) ∧
 (Pu (faV 13 r1) fun t132 =>
 Ld (World.drew w128) t132 fun t133 w134 =>
 w134 = (World.drew w128) ∧
 Pu (ixV 7 t133 i97) fun t135 =>
 Pu (faV 0 t135) fun t136 =>
 Ld (World.drew w128) t136 fun t137 w138 =>
 w138 = (World.drew w128) ∧
 Pu (faV 13 r1) fun t139 =>
 ∃ t140, (∀ w141, C131 w141 → Ld w141 t139 fun t142 w143 =>
 t142 = t140 ∧ w143 = w141) ∧
 (Pu (ixV 7 t140 i97) fun t144 =>
 Pu (faV 1 t144) fun t145 =>
 ∃ t146, (∀ w147, C131 w147 → LdN 6 w147 t145 fun t148 w149 =>
 t148 = t146 ∧ w149 = w147) ∧
 (RunS Tryz.prog (Instr.buildSlice 23 1 #[(0, t137)]) (World.drew w128) fun t150 w151 =>
 C131 w151 ∧
 (Cl Tryz.prog 164 [t150] w151 fun t152 w153 =>
 C131 w153 ∧
 (Cl Tryz.prog 166 [t146] w153 fun t154 w155 =>
 Cl Tryz.prog 165 [t154] w155 fun t156 w157 =>
 Pu (binV TypeDesc.string .add t152 t156) fun t158 =>
 RunS Tryz.prog (Builtin.append_ #[123, 9] 123 #[out96, t158]) w157 fun t159 w160 =>
 Pu (binV (.int .i64) .add i97 (.int .i64 1)) fun t161 =>
 I93 [t159, t161] w160 ∧ m94 [t159, t161] w160 < m94 [out96, i97] w124))))))
 (Pu (faV 14 r1) fun t162 =>
 Ld w128 t162 fun t163 w164 =>
 Pu (lenV t163) fun t165 =>
 RunS Tryz.prog (Instr.buildSlice 23 1 #[(0, t165)]) w164 fun t166 w167 =>
 Cl Tryz.prog 164 [t166] w167 fun t168 w169 =>
 RunS Tryz.prog (Builtin.append_ #[123, 9] 123 #[out96, t168]) w169 fun t170 w171 =>
 ∃ (I172 : List Value → World → Prop) (m173 : List Value → World → Nat), I172 [t170, (.int .i64 0)] w171 ∧
 ∀ (g201 : Fr) (w200 : World), ∀ out175 : Value, ∀ i176 : Value, I172 [out175, i176] w200 →
 (Pu (faV 14 r1) fun t202 =>
 Ld w200 t202 fun t203 w204 =>
 Pu (lenV t203) fun t205 =>
 Pu (binV (.int .i64) .lss i176 t205) fun t206 =>
 IfB t206
 (Pu (faV 14 r1) fun t207 =>
 Ld (World.drew w204) t207 fun t208 w209 =>
 w209 = (World.drew w204) ∧
 Pu (ixV 2 t208 i176) fun t210 =>
 Pu (faV 0 t210) fun t211 =>
 Ld (World.drew w204) t211 fun t212 w213 =>
 w213 = (World.drew w204) ∧
 Pu (faV 14 r1) fun t214 =>
 Ld (World.drew w204) t214 fun t215 w216 =>
 w216 = (World.drew w204) ∧
 Pu (ixV 2 t215 i176) fun t217 =>
 Pu (faV 1 t217) fun t218 =>
 Ld (World.drew w204) t218 fun t219 w220 =>
 w220 = (World.drew w204) ∧
 RunS Tryz.prog (Instr.buildSlice 23 2 #[(0, t212), (1, t219)]) (World.drew w204) fun t221 w222 =>
 Cl Tryz.prog 164 [t221] w222 fun t223 w224 =>
 RunS Tryz.prog (Builtin.append_ #[123, 9] 123 #[out175, t223]) w224 fun t225 w226 =>
 Pu (binV (.int .i64) .add i176 (.int .i64 1)) fun t227 =>
 I172 [t225, t227] w226 ∧ m173 [t225, t227] w226 < m173 [out175, i176] w200)
 (Pu (faV 15 r1) fun t228 =>
 Ld w204 t228 fun t229 w230 =>
 Pu (lenV t229) fun t231 =>
 RunS Tryz.prog (Instr.buildSlice 23 1 #[(0, t231)]) w230 fun t232 w233 =>
 Cl Tryz.prog 164 [t232] w233 fun t234 w235 =>
 RunS Tryz.prog (Builtin.append_ #[123, 9] 123 #[out175, t234]) w235 fun t236 w237 =>
 ∃ (I238 : List Value → World → Prop) (m239 : List Value → World → Nat), I238 [t236, (.int .i64 0)] w237 ∧
 ∀ (g267 : Fr) (w266 : World), ∀ out241 : Value, ∀ i242 : Value, I238 [out241, i242] w266 →
 (Pu (faV 15 r1) fun t268 =>
 Ld w266 t268 fun t269 w270 =>
 Pu (lenV t269) fun t271 =>
 Pu (binV (.int .i64) .lss i242 t271) fun t272 =>
 IfB t272
 (Pu (faV 15 r1) fun t273 =>
 Ld (World.drew w270) t273 fun t274 w275 =>
 w275 = (World.drew w270) ∧
 Pu (ixV 2 t274 i242) fun t276 =>
 Pu (faV 0 t276) fun t277 =>
 Ld (World.drew w270) t277 fun t278 w279 =>
 w279 = (World.drew w270) ∧
 Pu (faV 15 r1) fun t280 =>
 Ld (World.drew w270) t280 fun t281 w282 =>
 w282 = (World.drew w270) ∧
 Pu (ixV 2 t281 i242) fun t283 =>
 Pu (faV 1 t283) fun t284 =>
 Ld (World.drew w270) t284 fun t285 w286 =>
 w286 = (World.drew w270) ∧
 RunS Tryz.prog (Instr.buildSlice 23 2 #[(0, t278), (1, t285)]) (World.drew w270) fun t287 w288 =>
 Cl Tryz.prog 164 [t287] w288 fun t289 w290 =>
 RunS Tryz.prog (Builtin.append_ #[123, 9] 123 #[out241, t289]) w290 fun t291 w292 =>
 Pu (binV (.int .i64) .add i242 (.int .i64 1)) fun t293 =>
 I238 [t291, t293] w292 ∧ m239 [t291, t293] w292 < m239 [out241, i242] w266)
 (RunS Tryz.prog (convert 123 9 out241) w270 fun t294 w295 =>
 k t294 w295))))))))))
theorem e87 (k : KV) (r0 : Value) (w : World) : K KD Tryz.prog 154 (fun j => bif Nat.beq j 18 then [3, 6] else bif Nat.beq j 13 then [3, 5] else bif Nat.beq j 8 then [3, 4] else []) (fun j =>  none) (Tryz.f87.body.getD .skip) (retQ Tryz.prog Tryz.f87 k) (argF [r0]) w = T87 k r0 w := by kernel_rfl
theorem c87 {k : KV} {r0 : Value} {w : World} (h : T87 k r0 w) : Cl Tryz.prog 87 [r0] w k :=
  Cl_of_K KD_sound mixed Tryz.func87 (by kernel_rfl) (by kernel_rfl) ((e87 k r0 w).symm ▸ h)

def T130 (k : KV) (r0 : Value) (w : World) : Prop :=
 New (Value.cells r0) 28 w fun r1 w2 =>
 LdN 16 w2 r1 fun t3 w4 =>
 Cl Tryz.prog 86 [t3] w4 fun t5 w6 =>
 Pu (binV (.int .i64) .neq t5 (.int .i64 0)) fun t7 =>
 IfB t7
 (k (.tuple #[(.string (.mk #[])), t5]) w6)
 (LdN 16 w6 r1 fun t8 w9 =>
 Cl Tryz.prog 87 [t8] w9 fun t10 w11 =>
 Pu (lenS t10) fun t12 =>
 Cl Tryz.prog 192 [t12, (.int .i64 4)] w11 fun t13 w14 =>
 Cl Tryz.prog 84 [t10] w14 fun t15 w16 =>
 Pu (cvI IntKind.i64 t15) fun t17 =>
 Cl Tryz.prog 192 [t17, (.int .i64 4)] w16 fun t18 w19 =>
 Pu (binV TypeDesc.string .add t13 t18) fun t20 =>
 Pu (binV TypeDesc.string .add t20 t10) fun t21 =>
 k (.tuple #[t21, (.int .i64 0)]) w19)
theorem e130 (k : KV) (r0 : Value) (w : World) : K KD Tryz.prog 23 (fun j =>  []) (fun j =>  none) (Tryz.f130.body.getD .skip) (retQ Tryz.prog Tryz.f130 k) (argF [r0]) w = T130 k r0 w := by kernel_rfl
theorem c130 {k : KV} {r0 : Value} {w : World} (h : T130 k r0 w) : Cl Tryz.prog 130 [r0] w k :=
  Cl_of_K KD_sound mixed Tryz.func130 (by kernel_rfl) (by kernel_rfl) ((e130 k r0 w).symm ▸ h)

def T163 (k : KV) (r0 : Value) (w : World) : Prop :=
 New (Value.cells r0) 28 w fun r1 w2 =>
 Pu (faV 0 r1) fun t3 =>
 Ld w2 t3 fun t4 w5 =>
 Pu (binV (.int .i64) .lss t4 (.int .i64 1)) fun t6 =>
 Gd (isB false t6) (fun kk => Pu (faV 0 r1) fun vv => kk vv w5) w5 fun t7 w8 =>
 Gd (isB false t6) (fun kk => Ld w8 t7 kk) w8 fun t9 w10 =>
 Gd (isB false t6) (fun kk => Pu (faV 1 r1) fun vv => kk vv w10) w10 fun t11 w12 =>
 Gd (isB false t6) (fun kk => Ld w12 t11 kk) w12 fun t13 w14 =>
 Gd (isB false t6) (fun kk => Pu (faV 2 r1) fun vv => kk vv w14) w14 fun t15 w16 =>
 Gd (isB false t6) (fun kk => Ld w16 t15 kk) w16 fun t17 w18 =>
 Gd (isB false t6) (fun kk => Pu (faV 9 r1) fun vv => kk vv w18) w18 fun t19 w20 =>
 Gd (isB false t6) (fun kk => Ld w20 t19 kk) w20 fun t21 w22 =>
 Gd (isB false t6) (fun kk => Pu (faV 4 r1) fun vv => kk vv w22) w22 fun t23 w24 =>
 Gd (isB false t6) (fun kk => Ld w24 t23 kk) w24 fun t25 w26 =>
 Gd (isB false t6) (fun kk => Pu (faV 5 r1) fun vv => kk vv w26) w26 fun t27 w28 =>
 Gd (isB false t6) (fun kk => Ld w28 t27 kk) w28 fun t29 w30 =>
 Gd (isB false t6) (fun kk => Pu (faV 6 r1) fun vv => kk vv w30) w30 fun t31 w32 =>
 Gd (isB false t6) (fun kk => Ld w32 t31 kk) w32 fun t33 w34 =>
 Gd (isB false t6) (fun kk => Pu (faV 7 r1) fun vv => kk vv w34) w34 fun t35 w36 =>
 Gd (isB false t6) (fun kk => Ld w36 t35 kk) w36 fun t37 w38 =>
 Gd (isB false t6) (fun kk => Pu (faV 8 r1) fun vv => kk vv w38) w38 fun t39 w40 =>
 Gd (isB false t6) (fun kk => Ld w40 t39 kk) w40 fun t41 w42 =>
 Gd (isB false t6) (fun kk => RunS Tryz.prog (Instr.buildSlice 23 9 #[(0, t9), (1, t13), (2, t17), (3, t21), (4, t25), (5, t29), (6, t33), (7, t37), (8, t41)]) w42 kk) w42 fun t43 w44 =>
 Gd (isB false t6) (fun kk => Cl Tryz.prog 205 [t43] w44 kk) w44 fun t45 w46 =>
 Gd (isB false t6) (fun kk => Pu (unV .not t45) fun vv => kk vv w46) w46 fun t47 w48 =>
 Pu (pickV t6 (.bool true) t47) fun t49 =>
 Gd (isB false t49) (fun kk => Pu (faV 11 r1) fun vv => kk vv w48) w48 fun t50 w51 =>
 Gd (isB false t49) (fun kk => Ld w51 t50 kk) w51 fun t52 w53 =>
 Gd (isB false t49) (fun kk => Cl Tryz.prog 205 [t52] w53 kk) w53 fun t54 w55 =>
 Gd (isB false t49) (fun kk => Pu (unV .not t54) fun vv => kk vv w55) w55 fun t56 w57 =>
 Pu (pickV t49 (.bool true) t56) fun t58 =>
 Gd (isB false t58) (fun kk => Pu (faV 12 r1) fun vv => kk vv w57) w57 fun t59 w60 =>
 Gd (isB false t58) (fun kk => Ld w60 t59 kk) w60 fun t61 w62 =>
 Gd (isB false t58) (fun kk => Cl Tryz.prog 205 [t61] w62 kk) w62 fun t63 w64 =>
 Gd (isB false t58) (fun kk => Pu (unV .not t63) fun vv => kk vv w64) w64 fun t65 w66 =>
 Pu (pickV t58 (.bool true) t65) fun t67 =>
 IfB t67
 (k (.bool false) w66)
 (∃ (I68 : List Value → World → Prop) (m69 : List Value → World → Nat), I68 [(.int .i64 0)] w66 ∧
 ∀ (g89 : Fr) (w88 : World), ∀ i72 : Value, I68 [i72] w88 →
 (Pu (faV 13 r1) fun t90 =>
 Ld w88 t90 fun t91 w92 =>
 Pu (lenV t91) fun t93 =>
 Pu (binV (.int .i64) .lss i72 t93) fun t94 =>
 IfB t94
 (Pu (faV 13 r1) fun t95 =>
 Ld w92 t95 fun t96 w97 =>
 Pu (ixV 7 t96 i72) fun t98 =>
 Pu (faV 0 t98) fun t99 =>
 Ld w97 t99 fun t100 w101 =>
 Cl Tryz.prog 206 [t100] w101 fun t102 w103 =>
 Pu (unV .not t102) fun t104 =>
 IfB t104
 (k (.bool false) w103)
 (Pu (binV (.int .i64) .add i72 (.int .i64 1)) fun t105 =>
 I68 [t105] w103 ∧ m69 [t105] w103 < m69 [i72] w88))
 (∃ (I106 : List Value → World → Prop) (m107 : List Value → World → Nat), I106 [(.int .i64 0)] w92 ∧
 ∀ (g137 : Fr) (w136 : World), ∀ i110 : Value, I106 [i110] w136 →
 (Pu (faV 14 r1) fun t138 =>
 Ld w136 t138 fun t139 w140 =>
 Pu (lenV t139) fun t141 =>
 Pu (binV (.int .i64) .lss i110 t141) fun t142 =>
 IfB t142
 (Pu (faV 14 r1) fun t143 =>
 Ld w140 t143 fun t144 w145 =>
 Pu (ixV 2 t144 i110) fun t146 =>
 Pu (faV 0 t146) fun t147 =>
 Ld w145 t147 fun t148 w149 =>
 Cl Tryz.prog 206 [t148] w149 fun t150 w151 =>
 Pu (unV .not t150) fun t152 =>
 Gd (isB false t152) (fun kk => Pu (faV 14 r1) fun vv => kk vv w151) w151 fun t153 w154 =>
 Gd (isB false t152) (fun kk => Ld w154 t153 kk) w154 fun t155 w156 =>
 Gd (isB false t152) (fun kk => kk i110 w156) w156 fun t157 w158 =>
 Gd (isB false t152) (fun kk => Pu (ixV 2 t155 t157) fun vv => kk vv w158) w158 fun t159 w160 =>
 Gd (isB false t152) (fun kk => Pu (faV 1 t159) fun vv => kk vv w160) w160 fun t161 w162 =>
 Gd (isB false t152) (fun kk => Ld w162 t161 kk) w162 fun t163 w164 =>
 Gd (isB false t152) (fun kk => Cl Tryz.prog 206 [t163] w164 kk) w164 fun t165 w166 =>
 Gd (isB false t152) (fun kk => Pu (unV .not t165) fun vv => kk vv w166) w166 fun t167 w168 =>
 Pu (pickV t152 (.bool true) t167) fun t169 =>
 IfB t169
 (k (.bool false) w168)
 (Pu (binV (.int .i64) .add i110 (.int .i64 1)) fun t170 =>
 I106 [t170] w168 ∧ m107 [t170] w168 < m107 [i110] w136))
 (∃ (I171 : List Value → World → Prop) (m172 : List Value → World → Nat), I171 [(.int .i64 0)] w140 ∧
 ∀ (g202 : Fr) (w201 : World), ∀ i175 : Value, I171 [i175] w201 →
 (Pu (faV 15 r1) fun t203 =>
 Ld w201 t203 fun t204 w205 =>
 Pu (lenV t204) fun t206 =>
 Pu (binV (.int .i64) .lss i175 t206) fun t207 =>
 IfB t207
 (Pu (faV 15 r1) fun t208 =>
 Ld w205 t208 fun t209 w210 =>
 Pu (ixV 2 t209 i175) fun t211 =>
 Pu (faV 0 t211) fun t212 =>
 Ld w210 t212 fun t213 w214 =>
 Cl Tryz.prog 206 [t213] w214 fun t215 w216 =>
 Pu (unV .not t215) fun t217 =>
 Gd (isB false t217) (fun kk => Pu (faV 15 r1) fun vv => kk vv w216) w216 fun t218 w219 =>
 Gd (isB false t217) (fun kk => Ld w219 t218 kk) w219 fun t220 w221 =>
 Gd (isB false t217) (fun kk => kk i175 w221) w221 fun t222 w223 =>
 Gd (isB false t217) (fun kk => Pu (ixV 2 t220 t222) fun vv => kk vv w223) w223 fun t224 w225 =>
 Gd (isB false t217) (fun kk => Pu (faV 1 t224) fun vv => kk vv w225) w225 fun t226 w227 =>
 Gd (isB false t217) (fun kk => Ld w227 t226 kk) w227 fun t228 w229 =>
 Gd (isB false t217) (fun kk => Cl Tryz.prog 206 [t228] w229 kk) w229 fun t230 w231 =>
 Gd (isB false t217) (fun kk => Pu (unV .not t230) fun vv => kk vv w231) w231 fun t232 w233 =>
 Pu (pickV t217 (.bool true) t232) fun t234 =>
 IfB t234
 (k (.bool false) w233)
 (Pu (binV (.int .i64) .add i175 (.int .i64 1)) fun t235 =>
 I171 [t235] w233 ∧ m172 [t235] w233 < m172 [i175] w201))
 (k (.bool true) w205)))))))
theorem e163 (k : KV) (r0 : Value) (w : World) : K KD Tryz.prog 109 (fun j => bif Nat.beq j 14 then [5] else bif Nat.beq j 9 then [4] else bif Nat.beq j 4 then [3] else []) (fun j =>  none) (Tryz.f163.body.getD .skip) (retQ Tryz.prog Tryz.f163 k) (argF [r0]) w = T163 k r0 w := by kernel_rfl
theorem c163 {k : KV} {r0 : Value} {w : World} (h : T163 k r0 w) : Cl Tryz.prog 163 [r0] w k :=
  Cl_of_K KD_sound mixed Tryz.func163 (by kernel_rfl) (by kernel_rfl) ((e163 k r0 w).symm ▸ h)

def T164 (k : KV) (ns0 : Value) (w : World) : Prop :=
 ∃ (I1 : List Value → World → Prop) (m2 : List Value → World → Nat), I1 [(.slice none 0 0), (.int .i64 0)] w ∧
 ∀ (g35 : Fr) (w34 : World), ∀ b4 : Value, ∀ i5 : Value, I1 [b4, i5] w34 →
 (Pu (lenV ns0) fun t36 =>
 Pu (binV (.int .i64) .lss i5 t36) fun t37 =>
 IfB t37
 (Pu (ixV 1 ns0 i5) fun t38 =>
 Ld w34 t38 fun t39 w40 =>
 Pu (foldV0 max2V [t39, (.int .i64 0)]) fun t41 =>
 ∃ (I42 : List Value → World → Prop) (m43 : List Value → World → Nat), I42 [b4, t41] w40 ∧
 ∀ (g59 : Fr) (w58 : World), ∀ b45 : Value, ∀ n46 : Value, I42 [b45, n46] w58 →
 (Pu (binV (.int .i64) .geq n46 (.int .i64 128)) fun t60 =>
 IfB t60
 (Pu (binV (.int .i64) .rem n46 (.int .i64 128)) fun t61 =>
 Pu (binV (.int .i64) .add t61 (.int .i64 128)) fun t62 =>
 Pu (cvI IntKind.u8 t62) fun t63 =>
 RunS Tryz.prog (Instr.buildSlice 123 1 #[(0, t63)]) w58 fun t64 w65 =>
 RunS Tryz.prog (Builtin.append_ #[123, 123] 123 #[b45, t64]) w65 fun t66 w67 =>
 Pu (binV (.int .i64) .quo n46 (.int .i64 128)) fun t68 =>
 I42 [t66, t68] w67 ∧ m43 [t66, t68] w67 < m43 [b45, n46] w58)
 (Pu (cvI IntKind.u8 n46) fun t69 =>
 RunS Tryz.prog (Instr.buildSlice 123 1 #[(0, t69)]) w58 fun t70 w71 =>
 RunS Tryz.prog (Builtin.append_ #[123, 123] 123 #[b45, t70]) w71 fun t72 w73 =>
 Pu (binV (.int .i64) .add i5 (.int .i64 1)) fun t74 =>
 I1 [t72, t74] w73 ∧ m2 [t72, t74] w73 < m2 [b4, i5] w34)))
 (RunS Tryz.prog (convert 123 9 b4) w34 fun t75 w76 =>
 k t75 w76))
theorem e164 (k : KV) (ns0 : Value) (w : World) : K KD Tryz.prog 35 (fun j => bif Nat.beq j 6 then [3, 5] else bif Nat.beq j 3 then [3, 4] else []) (fun j =>  none) (Tryz.f164.body.getD .skip) (retQ Tryz.prog Tryz.f164 k) (argF [ns0]) w = T164 k ns0 w := by kernel_rfl
theorem c164 {k : KV} {ns0 : Value} {w : World} (h : T164 k ns0 w) : Cl Tryz.prog 164 [ns0] w k :=
  Cl_of_K KD_sound mixed Tryz.func164 (by kernel_rfl) (by kernel_rfl) ((e164 k ns0 w).symm ▸ h)

def T165 (k : KV) (s0 : Value) (w : World) : Prop :=
 Pu (lenS s0) fun t1 =>
 RunS Tryz.prog (Instr.buildSlice 23 1 #[(0, t1)]) w fun t2 w3 =>
 Cl Tryz.prog 164 [t2] w3 fun t4 w5 =>
 Pu (binV TypeDesc.string .add t4 s0) fun t6 =>
 k t6 w5
theorem e165 (k : KV) (s0 : Value) (w : World) : K KD Tryz.prog 9 (fun j =>  []) (fun j =>  none) (Tryz.f165.body.getD .skip) (retQ Tryz.prog Tryz.f165 k) (argF [s0]) w = T165 k s0 w := by kernel_rfl
theorem c165 {k : KV} {s0 : Value} {w : World} (h : T165 k s0 w) : Cl Tryz.prog 165 [s0] w k :=
  Cl_of_K KD_sound mixed Tryz.func165 (by kernel_rfl) (by kernel_rfl) ((e165 k s0 w).symm ▸ h)

def T166 (k : KV) (p0 : Value) (w : World) : Prop :=
 New (Value.cells p0) 61 w fun p1 w2 =>
 LdN 6 w2 p1 fun t3 w4 =>
 Cl Tryz.prog 132 [t3] w4 fun t5 w6 =>
 Pu (extV t5 0) fun t7 =>
 Pu (extV t5 1) fun t8 =>
 ∃ (I9 : List Value → World → Prop) (m10 : List Value → World → Nat), I9 [t7] w6 ∧
 ∀ (g30 : Fr) (w29 : World), ∀ s12 : Value, I9 [s12] w29 →
 (Pu (lenS s12) fun t31 =>
 Pu (binV (.int .i64) .gtr t31 (.int .i64 0)) fun t32 =>
 Gd (isB true t32) (fun kk => kk s12 w29) w29 fun t33 w34 =>
 Gd (isB true t32) (fun kk => kk s12 w34) w34 fun t35 w36 =>
 Gd (isB true t32) (fun kk => Pu (lenS t35) fun vv => kk vv w36) w36 fun t37 w38 =>
 Gd (isB true t32) (fun kk => Pu (binV (.int .i64) .sub t37 (.int .i64 1)) fun vv => kk vv w38) w38 fun t39 w40 =>
 Gd (isB true t32) (fun kk => Pu (ixS t33 t39) fun vv => kk vv w40) w40 fun t41 w42 =>
 Gd (isB true t32) (fun kk => Pu (binV (.int .u8) .eql t41 (.int .u8 0)) fun vv => kk vv w42) w42 fun t43 w44 =>
 Pu (pickV t32 t43 (.bool false)) fun t45 =>
 IfB t45
 (Pu (lenS s12) fun t46 =>
 Pu (binV (.int .i64) .sub t46 (.int .i64 1)) fun t47 =>
 Pu (slS s12 none (some t47)) fun t48 =>
 I9 [t48] w44 ∧ m10 [t48] w44 < m10 [s12] w29)
 (k s12 w44))
theorem e166 (k : KV) (p0 : Value) (w : World) : K KD Tryz.prog 27 (fun j => bif Nat.beq j 2 then [3] else []) (fun j =>  none) (Tryz.f166.body.getD .skip) (retQ Tryz.prog Tryz.f166 k) (argF [p0]) w = T166 k p0 w := by kernel_rfl
theorem c166 {k : KV} {p0 : Value} {w : World} (h : T166 k p0 w) : Cl Tryz.prog 166 [p0] w k :=
  Cl_of_K KD_sound mixed Tryz.func166 (by kernel_rfl) (by kernel_rfl) ((e166 k p0 w).symm ▸ h)

def T205 (k : KV) (l0 : Value) (w : World) : Prop :=
 ∃ (I1 : List Value → World → Prop) (m2 : List Value → World → Nat), I1 [(.int .i64 0)] w ∧
 ∀ (g19 : Fr) (w18 : World), ∀ i5 : Value, I1 [i5] w18 →
 (Pu (lenV l0) fun t20 =>
 Pu (binV (.int .i64) .lss i5 t20) fun t21 =>
 IfB t21
 (Pu (ixV 1 l0 i5) fun t22 =>
 Ld w18 t22 fun t23 w24 =>
 Cl Tryz.prog 206 [t23] w24 fun t25 w26 =>
 Pu (unV .not t25) fun t27 =>
 IfB t27
 (k (.bool false) w26)
 (Pu (binV (.int .i64) .add i5 (.int .i64 1)) fun t28 =>
 I1 [t28] w26 ∧ m2 [t28] w26 < m2 [i5] w18))
 (k (.bool true) w18))
theorem e205 (k : KV) (l0 : Value) (w : World) : K KD Tryz.prog 16 (fun j => bif Nat.beq j 2 then [3] else []) (fun j =>  none) (Tryz.f205.body.getD .skip) (retQ Tryz.prog Tryz.f205 k) (argF [l0]) w = T205 k l0 w := by kernel_rfl
theorem c205 {k : KV} {l0 : Value} {w : World} (h : T205 k l0 w) : Cl Tryz.prog 205 [l0] w k :=
  Cl_of_K KD_sound mixed Tryz.func205 (by kernel_rfl) (by kernel_rfl) ((e205 k l0 w).symm ▸ h)

def T206 (k : KV) (n0 : Value) (w : World) : Prop :=
 Pu (binV (.int .i64) .geq n0 (.int .i64 0)) fun t1 =>
 Gd (isB true t1) (fun kk => kk n0 w) w fun t2 w3 =>
 Gd (isB true t1) (fun kk => Pu (binV (.int .i64) .leq t2 (.int .i64 4611686018427387904)) fun vv => kk vv w3) w3 fun t4 w5 =>
 Pu (pickV t1 t4 (.bool false)) fun t6 =>
 k t6 w5
theorem e206 (k : KV) (n0 : Value) (w : World) : K KD Tryz.prog 9 (fun j =>  []) (fun j =>  none) (Tryz.f206.body.getD .skip) (retQ Tryz.prog Tryz.f206 k) (argF [n0]) w = T206 k n0 w := by kernel_rfl
theorem c206 {k : KV} {n0 : Value} {w : World} (h : T206 k n0 w) : Cl Tryz.prog 206 [n0] w k :=
  Cl_of_K KD_sound mixed Tryz.func206 (by kernel_rfl) (by kernel_rfl) ((e206 k n0 w).symm ▸ h)

end Go.Proofs.YthbngnlmgplijaaGreatDoor

namespace Go.Proofs.YthbngnlmgplijaaGreatDoor
open Go.Al Go.Proofs
set_option linter.unusedVariables false
set_option linter.unusedSimpArgs false
set_option linter.unusedSectionVars false
set_option maxRecDepth 100000

theorem make_zeros (w : World) (n : Nat) (h : n ≤ 281474976710656) : ∃ w', (Instr.makeSlice 123 (.int .i64 n) (.int .i64 n)).run Tryz.prog w = .ok (.slice (some ⟨w.heap.size, 0, none⟩) n n) w' ∧ BRow w' w.heap.size 5 (zeros n) ∧ Fm (fun _ => False) w w' :=
  ⟨_, BRow.make B38 w n h, alloc_new w _, Fm.alloc _ _ _⟩
theorem conv_zeros {w : World} {g n : Nat} (h : BRow w g 5 (zeros n)) : (convert 123 9 (.slice (some ⟨g, 0, none⟩) n n)).run Tryz.prog w = .ok (stv (zeros n)) w := by
  have := BRow.conv B38 h (o := 0) (n := n) (by rw [zeros_len]; omega) n
  rw [List.drop_zero, List.take_of_length_le (by rw [zeros_len]; exact Nat.le_refl _)] at this
  exact this

set_option maxHeartbeats 4000000 in
theorem rencode_spec {w : World} {cs : Array Value} {p : Pg} (h : PgAs w cs p) : Cl Tryz.prog 132 [.agg cs] w fun r w' => r = encR p ∧ Fm (fun _ => False) w w' := by
  obtain ⟨v, rfl, hone, hc⟩ := h.ex
  have hin := h.ins
  have hclt := hc.lt
  unfold maxLen at hclt
  refine c132 ?_; unfold T132
  refine New_any ?_
  intro x1 w1 hx1 hs1 hw1 hf1
  replace hw1 : PB w1 x1 p v := hw1
  have hc1 := hc.keep hf1 (fun _ _ e => e)
  have hlen := hc.lenV
  have hall := hw1.all
  have rg : ∀ {P : Prop}, rangeB p = true → encR p = .tuple #[stv [], iv 4] := fun hr => encR_range hr
  simp only [RS0, RS1, RS2, RS3, RS4, RS5, hw1.c0]
  cases h1 : decide (p.lsn < 0) with
  | true => simp only [RS0, RS1, RS2, RS3, RS4, RS5]; exact ⟨(encR_range (by unfold rangeB; simp only [decide_eq_true_eq] at *; omega)).symm, hf1⟩
  | false =>
  simp only [RS0, RS1, RS2, RS3, RS4, RS5, hw1.c1]
  cases h2 : decide (p.kind < 1) with
  | true => simp only [RS0, RS1, RS2, RS3, RS4, RS5]; exact ⟨(encR_range (by unfold rangeB; simp only [decide_eq_true_eq] at *; omega)).symm, hf1⟩
  | false =>
  simp only [RS0, RS1, RS2, RS3, RS4, RS5, hw1.c1]
  cases h3 : decide (3 < p.kind) with
  | true => simp only [RS0, RS1, RS2, RS3, RS4, RS5]; exact ⟨(encR_range (by unfold rangeB; simp only [decide_eq_true_eq] at *; omega)).symm, hf1⟩
  | false =>
  simp only [RS0, RS1, RS2, RS3, RS4, RS5, hw1.c2]
  cases h4 : decide (p.level < 0) with
  | true => simp only [RS0, RS1, RS2, RS3, RS4, RS5]; exact ⟨(encR_range (by unfold rangeB; simp only [decide_eq_true_eq] at *; omega)).symm, hf1⟩
  | false =>
  simp only [RS0, RS1, RS2, RS3, RS4, RS5, hw1.c2]
  cases h5 : decide (255 < p.level) with
  | true => simp only [RS0, RS1, RS2, RS3, RS4, RS5]; exact ⟨(encR_range (by unfold rangeB; simp only [decide_eq_true_eq] at *; omega)).symm, hf1⟩
  | false =>
  simp only [RS0, RS1, RS2, RS3, RS4, RS5, hw1.c3]
  cases h6 : decide (p.right < 0) with
  | true => simp only [RS0, RS1, RS2, RS3, RS4, RS5]; exact ⟨(encR_range (by unfold rangeB; simp only [decide_eq_true_eq] at *; omega)).symm, hf1⟩
  | false =>
  simp only [RS0, RS1, RS2, RS3, RS4, RS5, hw1.c3]
  cases h7 : decide (4294967295 < p.right) with
  | true => simp only [RS0, RS1, RS2, RS3, RS4, RS5]; exact ⟨(encR_range (by unfold rangeB; simp only [decide_eq_true_eq] at *; omega)).symm, hf1⟩
  | false =>
  have hr : rangeB p = false := by unfold rangeB; simp only [decide_eq_false_iff_not] at *; omega
  have d1 : decide ((255 : Int) < (p.high.length : Int)) = decide (255 < p.high.length) := by rw [decide_eq_decide]; omega
  have d2 : decide ((255 : Int) < (p.items.length : Int)) = decide (255 < p.items.length) := by rw [decide_eq_decide]; omega
  simp only [RS0, RS1, RS2, RS3, RS4, RS5, hw1.c4, str_size, d1]
  cases h8 : decide (255 < p.high.length) with
  | true => simp only [RS0, RS1, RS2, RS3, RS4, RS5]; exact ⟨(encR_long hr (by unfold longB; rw [decide_eq_true_eq] at *; omega)).symm, hf1⟩
  | false =>
  simp only [RS0, RS1, RS2, RS3, RS4, RS5, hw1.c5, hlen, d2]
  cases h9 : decide (255 < p.items.length) with
  | true => simp only [RS0, RS1, RS2, RS3, RS4, RS5]; exact ⟨(encR_long hr (by unfold longB; rw [decide_eq_true_eq] at *; omega)).symm, hf1⟩
  | false =>
  simp only [RS0, RS1, RS2, RS3, RS4, RS5, hall]
  refine (rsize_spec (p := p) ⟨⟨v, rfl, hone, hc1⟩, h.small, h.ins⟩).mono ?_
  rintro _ w2 ⟨rfl, hf2⟩
  have hsb := size_bound h (by rw [decide_eq_false_iff_not] at h9; omega)
  have d3 : decide (512 < IntKind.i64.wrap (pSize p)) = decide (512 < pSize p) := by rw [wrap_nat (by omega), decide_eq_decide]; omega
  have hw2 := hw1.keep hf2 (fun e => e)
  have hF2 := Fmf hf1 hf2
  simp only [RS0, RS1, RS2, RS3, RS4, RS5, d3]
  cases h10 : decide (512 < pSize p) with
  | true => simp only [RS0, RS1, RS2, RS3, RS4, RS5]; exact ⟨(encR_long hr (by unfold longB; rw [decide_eq_true_eq] at *; omega)).symm, hF2⟩
  | false =>
  have hl : longB p = false := by unfold longB; simp only [decide_eq_false_iff_not] at *; omega
  have hok := pErr_zero hr hl
  obtain ⟨⟨b1, b2, b3, b4, b5, b6, b7⟩, b8, b9, b10⟩ := pErr_ok hok
  have hbl := pBody_len p
  have hf5 := Fm.drew (fun _ => False) w2
  have hP5 : PB w2.drew x1 p v := hw2.keep hf5 (fun e => e)
  have hF5 : Fm (fun _ => False) w w2.drew := Fmf hF2 hf5
  simp only [RS0, RS1, RS2, RS3, RS4, RS5]
  generalize hw5 : w2.drew = w5 at hP5 hF5
  refine ⟨fun w => PB w x1 p v, hP5, ?_⟩
  simp only [RS0, RS1, RS2, RS3, RS4, RS5, hw2.c0, hP5.c0, true_and]
  refine ⟨iv p.kind, fun w6 h6 => ?_, ?_⟩
  · simp only [RS0, RS1, RS2, RS3, RS4, RS5, h6.c1]; trivial
  refine ⟨iv p.level, fun w6 h6 => ?_, ?_⟩
  · simp only [RS0, RS1, RS2, RS3, RS4, RS5, h6.c2]; trivial
  refine ⟨iv p.right, fun w6 h6 => ?_, ?_⟩
  · simp only [RS0, RS1, RS2, RS3, RS4, RS5, h6.c3]; trivial
  refine ⟨v, fun w6 h6 => ?_, ?_⟩
  · simp only [RS0, RS1, RS2, RS3, RS4, RS5, h6.c5]; trivial
  simp only [RS0, RS1, RS2, RS3, RS4, RS5, hlen]
  refine ⟨stv p.high, fun w6 h6 => ?_, ?_⟩
  · simp only [RS0, RS1, RS2, RS3, RS4, RS5, h6.c4]; trivial
  simp only [RS0, RS1, RS2, RS3, RS4, RS5, str_size]
  refine ⟨stv p.high, fun w6 h6 => ?_, ?_⟩
  · simp only [RS0, RS1, RS2, RS3, RS4, RS5, h6.c4]; trivial
  have g1 : bigB p.lsn 8 = beN 8 p.lsn.toNat := bigB_nn (k := 8) b1 (by omega) (by omega)
  have g2 : bigB p.kind 1 = beN 1 p.kind.toNat := bigB_nn (k := 1) (by omega) (by omega) (by omega)
  have g3 : bigB p.level 1 = beN 1 p.level.toNat := bigB_nn (k := 1) b2 (by omega) (by omega)
  have g4 : bigB p.right 4 = beN 4 p.right.toNat := bigB_nn (k := 4) b3 (by omega) (by omega)
  have g5 : bigB (p.items.length : Nat) 1 = beN 1 p.items.length := bigB_of (n := p.items.length) (w := 1) (by omega) (by omega)
  have g6 : bigB (p.high.length : Nat) 1 = beN 1 p.high.length := bigB_of (n := p.high.length) (w := 1) (by omega) (by omega)
  refine (rbig_spec w5 hin.1 8).mono ?_
  rintro _ w6 ⟨rfl, hf6⟩
  have hP6 := hP5.keep hf6 (fun e => e)
  refine ⟨hP6, ?_⟩
  refine (rbig_spec w6 hin.2.1 1).mono ?_
  rintro _ w7 ⟨rfl, hf7⟩
  have hP7 := hP6.keep hf7 (fun e => e)
  refine ⟨hP7, ?_⟩
  rw [g1, g2, sadd (by rw [beN_len, beN_len]; omega)]
  try simp only [RS0, RS1, RS2, RS3, RS4, RS5]
  refine (rbig_spec w7 hin.2.2.1 1).mono ?_
  rintro _ w8 ⟨rfl, hf8⟩
  have hP8 := hP7.keep hf8 (fun e => e)
  refine ⟨hP8, ?_⟩
  rw [g3, sadd (by simp only [List.length_append, beN_len]; omega)]
  try simp only [RS0, RS1, RS2, RS3, RS4, RS5]
  refine (rbig_spec w8 hin.2.2.2.1 4).mono ?_
  rintro _ w9 ⟨rfl, hf9⟩
  have hP9 := hP8.keep hf9 (fun e => e)
  refine ⟨hP9, ?_⟩
  rw [g4, sadd (by simp only [List.length_append, beN_len]; omega)]
  try simp only [RS0, RS1, RS2, RS3, RS4, RS5]
  refine (rbig_spec w9 (n := (p.items.length : Nat)) (by unfold In; omega) 1).mono ?_
  rintro _ w10 ⟨rfl, hf10⟩
  have hP10 := hP9.keep hf10 (fun e => e)
  refine ⟨hP10, ?_⟩
  rw [g5, sadd (by simp only [List.length_append, beN_len]; omega)]
  try simp only [RS0, RS1, RS2, RS3, RS4, RS5]
  refine (rbig_spec w10 (n := (p.high.length : Nat)) (by unfold In; omega) 1).mono ?_
  rintro _ w11 ⟨rfl, hf11⟩
  have hP11 := hP10.keep hf11 (fun e => e)
  refine ⟨hP11, ?_⟩
  rw [g6, sadd (by simp only [List.length_append, beN_len]; omega)]
  try simp only [RS0, RS1, RS2, RS3, RS4, RS5]
  rw [sadd (by simp only [List.length_append, beN_len]; omega)]
  try simp only [RS0, RS1, RS2, RS3, RS4, RS5]
  have hhead : beN 8 p.lsn.toNat ++ beN 1 p.kind.toNat ++ beN 1 p.level.toNat ++ beN 4 p.right.toNat ++ beN 1 p.items.length ++ beN 1 p.high.length ++ p.high = pHead p := by
    simp only [pHead, List.append_assoc]
  rw [hhead]
  have hF11 : Fm (fun _ => False) w w11 := Fmf hF5 (Fmf (Fmf (Fmf hf6 hf7) (Fmf hf8 hf9)) (Fmf hf10 hf11))
  refine ⟨fun vs w15 => ∃ i : Nat, vs = [stv (pHead p ++ (p.items.take i).flatMap itB), iv i] ∧ i ≤ p.items.length ∧ PB w15 x1 p v ∧ Fm (fun _ => False) w w15, fun vs _ => (p.items.length - nth vs 1).toNat, ⟨0, by simp, by omega, hP11, hF11⟩, ?_⟩
  rintro _ w15 sv ivv ⟨i, hvs, hi, hP15, hF15⟩
  cases hvs
  have hpl : (pBody p).length = (pHead p).length + (p.items.flatMap itB).length := by rw [pBody, List.length_append]
  by_cases hlt : i < p.items.length
  · have e1 : decide ((i : Int) < (p.items.length : Int)) = true := by rw [decide_eq_true_eq]; omega
    have e2 : IntKind.i64.wrap ((i : Int) + 1) = ((i + 1 : Nat) : Int) := by rw [wrap_id] <;> omega
    have hx : p.items[i]? = some p.items[i] := List.getElem?_eq_getElem hlt
    have hxm : p.items[i] ∈ p.items := List.getElem_mem hlt
    generalize p.items[i] = x at hx hxm
    have hxs := item_short b10 x hxm
    have hfl := flat_le p.items (i + 1)
    rw [flat_take hx, List.length_append, itB_len] at hfl
    obtain ⟨ad, hix, _, hcx⟩ := (hc.keep hF15 (fun _ _ e => e)).at1 (i := i) (x := stv x) (by rw [List.getElem?_map, hx]; rfl) .i64
    have hf16 := Fm.drew (fun _ => False) w15
    have hP16 : PB w15.drew x1 p v := hP15.keep hf16 (fun e => e)
    have hcx16 : w15.drew.cell? ad = some (stv x) := hf16.cell' hcx (fun e => e)
    simp only [RS0, RS1, RS2, RS3, RS4, RS5, hP15.c5, hlen, e1]
    refine ⟨fun w => PB w x1 p v ∧ w.cell? ad = some (stv x), ⟨hP16, hcx16⟩, ?_⟩
    have hF16 := Fmf hF15 hf16
    generalize w15.drew = w16 at hP16 hcx16 hF16 hf16
    simp only [RS0, RS1, RS2, RS3, RS4, RS5, hP15.c5, hP16.c5, true_and, hix, hcx, hcx16, str_size]
    refine ⟨v, fun w6 h6 => ?_, ?_⟩
    · simp only [RS0, RS1, RS2, RS3, RS4, RS5, h6.1.c5]; trivial
    simp only [RS0, RS1, RS2, RS3, RS4, RS5, hix]
    refine ⟨stv x, fun w6 h6 => ?_, ?_⟩
    · simp only [RS0, RS1, RS2, RS3, RS4, RS5, h6.2]; trivial
    refine (rbig_spec w16 (n := (x.length : Nat)) (by unfold In; omega) 2).mono ?_
    rintro _ w17 ⟨rfl, hf17⟩
    have hP17 := hP16.keep hf17 (fun e => e)
    refine ⟨⟨hP17, hf17.cell' hcx16 (fun e => e)⟩, ?_⟩
    have g7 : bigB (x.length : Nat) 2 = beN 2 x.length := bigB_of (n := x.length) (w := 2) (by omega) (by omega)
    rw [g7, sadd (by simp only [List.length_append, beN_len]; omega)]
    try simp only [RS0, RS1, RS2, RS3, RS4, RS5]
    rw [sadd (by simp only [List.length_append, beN_len]; omega)]
    simp only [RS0, RS1, RS2, RS3, RS4, RS5, e2]
    refine ⟨⟨i + 1, ?_, by omega, hP17, Fmf hF16 hf17⟩, by simp only [nth_1]; omega⟩
    rw [flat_take hx, itB]
    simp only [List.append_assoc]
  · obtain rfl : i = p.items.length := by omega
    have e1 : decide (((p.items.length : Nat) : Int) < (p.items.length : Int)) = false := by simp
    rw [List.take_length, show pHead p ++ p.items.flatMap itB = pBody p from rfl]
    have e3 : IntKind.i64.wrap (508 - ((pBody p).length : Int)) = ((508 - (pBody p).length : Nat) : Int) := by rw [wrap_id] <;> omega
    simp only [RS0, RS1, RS2, RS3, RS4, RS5, hP15.c5, hlen, e1, str_size, e3]
    obtain ⟨w16, hm, hb16, hf16⟩ := make_zeros w15 (508 - (pBody p).length) (by omega)
    refine RunS_ok hm ?_
    refine RunS_ok (conv_zeros hb16) ?_
    rw [sadd (by rw [zeros_len]; omega), show pBody p ++ zeros (508 - (pBody p).length) = pText p from rfl]
    try simp only [RS0, RS1, RS2, RS3, RS4, RS5]
    have htl := pText_len b10
    refine (rsum_spec w16 (pText p) (by omega)).mono ?_
    rintro _ w16 ⟨rfl, rfl⟩
    obtain ⟨q1, q2⟩ := crc_in (pText p)
    simp only [RS0, RS1, RS2, RS3, RS4, RS5, cvI_int, q2]
    refine (rbig_spec w16 q1 4).mono ?_
    rintro _ w19 ⟨rfl, hf19⟩
    have g8 : bigB (crc (pText p) : Nat) 4 = beN 4 (crc (pText p)) := bigB_of (n := crc (pText p)) (w := 4) (by omega) (by omega)
    rw [g8, sadd (by rw [beN_len]; omega)]
    try simp only [RS0, RS1, RS2, RS3, RS4, RS5]
    exact ⟨(encR_ok hok).symm, Fmf (Fmf hF15 hf16) hf19⟩

end Go.Proofs.YthbngnlmgplijaaGreatDoor

namespace Go.Al
set_option linter.unusedVariables false
set_option linter.unusedSimpArgs false
set_option linter.unusedSectionVars false

def OutAt (w : World) (b0 : Nat) (e : TypeId) (v : Value) (B : Bs) : Prop :=
  ∃ g cap cur fz, v = .slice (some ⟨g, 0, none⟩) B.length cap ∧ b0 ≤ g ∧ w.heap[g]? = some (.cells cur e fz) ∧ B.length ≤ cap ∧ cap ≤ maxLen ∧ cur.size = cap ∧ cur.toList.take B.length = bc B ∧ (fz = (0, 0) ∨ cap ≤ fz.1)
theorem OutAt.keep {S : Nat → Prop} {w w' : World} {b0 : Nat} {e : TypeId} {v : Value} {B : Bs} (h : OutAt w b0 e v B) (hf : Fm S w w') (hs : ∀ y, b0 ≤ y → y < w.heap.size → ¬ S y) : OutAt w' b0 e v B := by
  obtain ⟨g, cap, cur, fz, h1, h2, h3, h4⟩ := h
  exact ⟨g, cap, cur, fz, h1, h2, hf.heap h3 (hs g h2 (lt_of_heap h3)), h4⟩
theorem OutAt.new {P : Program} {t e s : TypeId} (B : ByteT P t e s) (w : World) (l : Bs) (hl : l.length ≤ maxLen) {b0 : Nat} (hb : b0 ≤ w.heap.size) : ∃ v w', (convert s t (stv l)).run P w = .ok v w' ∧ OutAt w' b0 e v l ∧ Fm (fun _ => False) w w' := by
  have hr := run_bytes_of_string (P := P) w s t e (str l) B.st B.sl B.u8
  rw [str_size] at hr
  have hge := grownCap_ge w l.length 0 e
  have hle := grownCap_le_maxLen w l.length 0 e hl
  have hz : (bytesRow (str l) (grownCap w l.length 0 e)).size = grownCap w l.length 0 e := by
    unfold bytesRow
    simp only [Array.size_append, Array.size_map, Array.size_replicate]
    have : (str l).data.size = l.length := by simp [str]
    rw [str_size]
    omega
  refine ⟨_, _, hr, ⟨_, _, _, _, rfl, hb, alloc_new w.drew _, hge, hle, hz, ?_, .inr (by rw [hz]; exact Nat.le_refl _)⟩, (Fm.drew _ w).trans (Fm.alloc _ w.drew _) (fun _ _ e => e) (fun _ _ e => e)⟩
  have : (bytesRow (str l) (grownCap w l.length 0 e)).toList = bc l ++ List.replicate (grownCap w l.length 0 e - l.length) (.int .u8 0) := by
    unfold bytesRow
    rw [Array.toList_append, Array.toList_map, Array.toList_replicate, str_size]; rfl
  rw [this, List.take_append_of_le_length (by rw [bc_len]; exact Nat.le_refl _), List.take_of_length_le (by rw [bc_len]; exact Nat.le_refl _)]

theorem store_ahead (P : Program) (g o : Nat) (t : TypeId) (fz : Nat × Nat) : ∀ (vs : List Value) (i : Nat) (cur : Array Value) (w : World), w.heap[g]? = some (.cells cur t fz) → (fz = (0, 0) ∨ cur.size ≤ fz.1) → o + i + vs.length ≤ cur.size → (∀ v ∈ vs, v.oneCell' = true) →
    (storeCells ⟨g, o, none⟩ vs i).run P w = .ok () (w.setRow g (cur.toList.take (o + i) ++ vs ++ cur.toList.drop (o + i + vs.length)).toArray)
  | [], i, cur, w, hg, _, _, _ => by
    simp only [storeCells, List.append_nil, List.length_nil, Nat.add_zero, List.take_append_drop, Array.toArray_toList]
    rw [setRow_self w g cur t fz hg]
    rfl
  | v :: rest, i, cur, w, hg, hfz, hl, h1 => by
    have hi : o + i < cur.size := by simp at hl; omega
    have hadd : (⟨g, o, none⟩ : Addr).add i = ⟨g, o + i, none⟩ := by unfold Addr.add; split <;> simp_all
    have hcell : w.cell? ⟨g, o + i, none⟩ = some cur[o + i] := by simp [World.cell?, hg, hi]
    have hfro : w.frozen? ⟨g, o + i, none⟩ = false := by
      obtain ⟨lo, hi'⟩ := fz
      simp only [World.frozen?, hg, Bool.and_eq_false_iff, decide_eq_false_iff_not]
      rcases hfz with h | h
      · cases h; right; omega
      · left
        simp only at h
        omega
    have hst : (store ((⟨g, o, none⟩ : Addr).add i) v).run P w = .ok () (w.setRow g (cur.setIfInBounds (o + i) v)) := by
      rw [hadd, run_store P w _ v _ (h1 v (by simp)), hcell]
      simp [hfro, setCell_eq_setRow w g (o + i) cur t fz v hg]
    have ih := store_ahead P g o t fz rest (i + 1) (cur.setIfInBounds (o + i) v) (w.setRow g (cur.setIfInBounds (o + i) v)) (setRow_heap w g cur _ t _ hg) (by simpa using hfz) (by simp at hl ⊢; omega) (fun x hx => h1 x (by simp [hx]))
    simp only [storeCells, Sem.run_bind, hst, Result.andThen_ok, ih, setRow_setRow]
    congr 3
    have e := list_seg_step cur.toList (o + i) v rest (by simp at hl ⊢; omega)
    simpa [Array.toList_setIfInBounds, Nat.add_assoc] using e

theorem OutAt.app {P : Program} {t e s : TypeId} (B : ByteT P t e s) {w : World} {b0 : Nat} {v : Value} {L : Bs} (h : OutAt w b0 e v L) (x : Bs) (ty : TypeId) (hl : L.length + x.length ≤ 100000000000) (hb : b0 ≤ w.heap.size) :
    ∃ v' w', (Builtin.append_ #[t, s] ty #[v, stv x]).run P w = .ok v' w' ∧ OutAt w' b0 e v' (L ++ x) ∧ Fm (fun y => b0 ≤ y) w w' := by
  obtain ⟨i, h1, h2, h3, h4⟩ := B.info
  obtain ⟨g, cap, cur, fz, rfl, hbg, hg, hnc, hcm, hcs, htake, hfz⟩ := h
  have hsx : Lib.strCells (str x) = bc x := rfl
  have hxz : (str x).size = x.length := str_size x
  by_cases hroom : L.length + x.length ≤ cap
  · have hf := Lib.run_firstCells_string (P := P) w 1 (str x)
    rw [hsx, hxz] at hf
    have hst := store_ahead P g L.length e fz (bc x) 0 cur w hg (by rw [hcs]; exact hfz) (by rw [bc_len, hcs]; omega) (bc_one x)
    simp only [Nat.add_zero, bc_len] at hst
    have hr : (Builtin.append_ #[t, s] ty #[.slice (some ⟨g, 0, none⟩) L.length cap, stv x]).run P w = .ok (.slice (some ⟨g, 0, none⟩) (L.length + x.length) cap) (w.setRow g (cur.toList.take L.length ++ bc x ++ cur.toList.drop (L.length + x.length)).toArray) := by
      simp [Builtin.append_, run_underlying B.sl, run_underlying B.st, sizeOf, typeInfo, h1, h3, Builtin.lenOf, str_size, hroom, hf, Addr.add_lit, hst]
    refine ⟨_, _, hr, ⟨g, cap, _, fz, by rw [List.length_append], hbg, setRow_heap w g cur _ e _ hg, by rw [List.length_append]; exact hroom, hcm, ?_, ?_, hfz⟩, ⟨rfl, rfl, rfl, by simp, fun k _ hk => setRow_other w g k _ (fun e => hk (by rw [e]; exact hbg))⟩⟩
    · simp only [List.size_toArray, List.length_append, List.length_take, List.length_drop, Array.length_toList, bc_len]
      omega
    · rw [htake, ← bc_append, List.take_append_of_le_length (by rw [bc_len]; exact Nat.le_refl _), List.take_of_length_le (by rw [bc_len]; exact Nat.le_refl _)]
  · have holds : ∀ j u, (bc L)[j]? = some u → w.cell? ((⟨g, 0, none⟩ : Addr).add j) = some u := by
      intro j u hj
      rw [← htake, List.getElem?_take] at hj
      split at hj
      · rw [Addr.add_lit, cell_at hg]
        simpa using hj
      · cases hj
    have hr := Lib.run_append_grow_string (P := P) w t s ty e i (.int .u8 0) B.sl B.st h1 h2 ⟨g, 0, none⟩ L.length cap (bc L) (by rw [bc_len, h3, Nat.mul_one]) holds (str x) (by rw [hxz]; omega) (by rw [hxz]; omega) (by rw [hxz, h4]; exact growslice_fits (by omega) (by omega))
    rw [hxz, hsx] at hr
    have hge := grownCap_ge w (L.length + x.length) cap e
    have hcm' : grownCap w (L.length + x.length) cap e ≤ maxLen := grownCap_le_maxLen w (L.length + x.length) cap e (by unfold maxLen; omega)
    refine ⟨_, _, hr, ⟨w.heap.size, _, _, (0, 0), by rw [List.length_append], hb, alloc_new w.drew _, by rw [List.length_append]; exact hge, hcm', ?_, ?_, .inl rfl⟩, ⟨rfl, rfl, rfl, by simp, fun k hk _ => (Fm.alloc (fun _ => False) w.drew _).block k hk (fun e => e)⟩⟩
    · have hz1 : (Value.int IntKind.u8 0).cells.size = 1 := rfl
      simp only [Array.size_append, List.size_toArray, size_zeroCells, hz1, bc_len]
      omega
    · simp only [Array.toList_append, List.append_assoc]
      rw [← List.append_assoc, ← bc_append, List.take_append_of_le_length (by rw [bc_len]; exact Nat.le_refl _), List.take_of_length_le (by rw [bc_len]; exact Nat.le_refl _)]
theorem OutAt.conv {P : Program} {t e s : TypeId} (B : ByteT P t e s) {w : World} {b0 : Nat} {v : Value} {L : Bs} {e' : TypeId} (h : OutAt w b0 e' v L) : (convert t s v).run P w = .ok (stv L) w := by
  obtain ⟨g, cap, cur, fz, rfl, hbg, hg, hnc, hcm, hcs, htake, hfz⟩ := h
  have hx : BX w g e' L := ⟨cur, fz, hg, htake, by rw [hcs]; exact hnc, hfz.imp id fun h => by omega⟩
  have := hx.conv (P := P) B (o := 0) (n := L.length) (by omega) cap
  rw [List.drop_zero, List.take_length] at this
  exact this

end Go.Al

namespace Go.Proofs.YthbngnlmgplijaaGreatDoor
open Go.Al Go.Proofs
set_option linter.unusedVariables false
set_option linter.unusedSimpArgs false
set_option linter.unusedSectionVars false
set_option maxRecDepth 100000

theorem within_spec (w : World) (n : Int) : Cl Tryz.prog 206 [iv n] w fun v w' => v = .bool (!badN n) ∧ w' = w := by
  refine c206 ?_; unfold T206
  simp only [RS0, RS1, RS2, RS3, RS4, RS5]
  cases h1 : decide (0 ≤ n) with
  | true =>
    rw [decide_eq_true_eq] at h1
    have e1 : decide (n < 0) = false := by rw [decide_eq_false_iff_not]; omega
    have e2 : decide (n ≤ 4611686018427387904) = !decide (4611686018427387904 < n) := by
      rw [← decide_not, decide_eq_decide]; omega
    unfold badN
    rw [e1]
    simp only [RS0, RS1, RS2, RS3, RS4, RS5, e2, Bool.false_or]
    exact ⟨(by trivial), (by trivial)⟩
  | false =>
    rw [decide_eq_false_iff_not] at h1
    have e1 : decide (n < 0) = true := by rw [decide_eq_true_eq]; omega
    unfold badN
    rw [e1]
    simp only [RS0, RS1, RS2, RS3, RS4, RS5, Bool.true_or]
    exact ⟨(by trivial), (by trivial)⟩
theorem lists_spec {w : World} {v : Value} {L : List Int} (h : CellsAt w v L.length 1 (L.map iv)) : Cl Tryz.prog 205 [v] w fun u w' => u = .bool (!L.any badN) ∧ w' = w := by
  have hlt := h.lt
  unfold maxLen at hlt
  refine c205 ?_; unfold T205
  refine ⟨fun vs w2 => ∃ i : Nat, vs = [iv i] ∧ i ≤ L.length ∧ (L.take i).any badN = false ∧ w2 = w, fun vs _ => (L.length - nth vs 0).toNat, ⟨0, rfl, by omega, rfl, rfl⟩, ?_⟩
  rintro _ w2 ivv ⟨i, hvs, hi, hno, rfl⟩
  cases hvs
  by_cases hl : i < L.length
  · have e1 : decide ((i : Int) < (L.length : Int)) = true := by rw [decide_eq_true_eq]; omega
    have e2 : IntKind.i64.wrap ((i : Int) + 1) = ((i + 1 : Nat) : Int) := by rw [wrap_id] <;> omega
    have hx : L[i]? = some L[i] := List.getElem?_eq_getElem hl
    generalize L[i] = n at hx
    obtain ⟨ad, hix, _, hc⟩ := h.at1 (i := i) (x := iv n) (by rw [List.getElem?_map, hx]; rfl) .i64
    simp only [RS0, RS1, RS2, RS3, RS4, RS5, h.lenV, e1, hix, hc]
    refine (within_spec w2 n).mono ?_
    rintro _ w3 ⟨rfl, rfl⟩
    cases hb : badN n with
    | true =>
      simp only [RS0, RS1, RS2, RS3, RS4, RS5]
      refine ⟨?_, (by trivial)⟩
      rw [List.any_eq_true.2 ⟨n, List.mem_of_getElem? hx, hb⟩]
      rfl
    | false =>
      simp only [RS0, RS1, RS2, RS3, RS4, RS5, e2]
      refine ⟨⟨i + 1, rfl, by omega, ?_, (by trivial)⟩, by simp only [nth_0]; omega⟩
      rw [List.take_add_one, hx, List.any_append, hno]
      simp [hb]
  · have hie : i = L.length := by omega
    subst hie
    have e1 : decide (((L.length : Nat) : Int) < (L.length : Int)) = false := by simp
    rw [List.take_length] at hno
    simp only [RS0, RS1, RS2, RS3, RS4, RS5, h.lenV, e1]
    exact ⟨by rw [hno]; rfl, (by trivial)⟩

set_option maxHeartbeats 1000000 in
theorem dnum_spec {w : World} {v : Value} {ns : List Int} (hns : CellsAt w v ns.length 1 (ns.map iv)) (hin : ∀ n ∈ ns, n ≤ 9223372036854775807) (hl : ns.length ≤ 1000000000) :
    Cl Tryz.prog 164 [v] w fun u w' => u = stv (numsB ns) ∧ Fm (fun _ => False) w w' := by
  refine c164 ?_; unfold T164
  refine ⟨fun vs w2 => ∃ (k : Nat) (o : Value), vs = [o, iv k] ∧ k ≤ ns.length ∧ w2.ownsRow w.heap.size 5 1 o (numsB (ns.take k)).length (bc (numsB (ns.take k))) ∧ Fm (fun _ => False) w w2, fun vs _ => (ns.length - nth vs 1).toNat, ⟨0, _, rfl, by omega, World.ownsRow_nil _ _ _ _, Fm.refl _ _⟩, ?_⟩
  rintro _ w2 ov ik ⟨k, o, hvs, hk, h2, hf2⟩
  cases hvs
  by_cases hlt : k < ns.length
  · have e1 : decide ((k : Int) < (ns.length : Int)) = true := by rw [decide_eq_true_eq]; omega
    have hx : ns[k]? = some ns[k] := List.getElem?_eq_getElem hlt
    have hmem := List.getElem_mem hlt
    have hxin := hin _ hmem
    have hel := encI_len hxin
    have hpre := numsB_len (l := ns.take k) (fun n hn => hin n (List.mem_of_mem_take hn))
    rw [List.length_take, Nat.min_eq_left hk] at hpre
    generalize ns[k] = n at hx hxin hel
    obtain ⟨ad, hix, _, hc⟩ := (hns.keep hf2 (fun _ _ e => e)).at1 (i := k) (x := iv n) (by rw [List.getElem?_map, hx]; rfl) .i64
    have z3 : max2V (iv n) (iv 0) = some (iv (max n 0)) := by
      show some (iv (if (0 : Int) > n then 0 else n)) = _
      congr 2
      split <;> omega
    have hlenV := hns.lenV
    simp only [RS0, RS1, RS2, RS3, RS4, RS5, hlenV, e1, hix, hc, foldV0, foldV, z3, Option.bind_some]
    obtain ⟨c0, hc0⟩ := Int.eq_ofNat_of_zero_le (show 0 ≤ max n 0 by omega)
    have henc : encI n = encN c0 := by unfold encI; rw [hc0]; rfl
    rw [hc0]
    have hpl : (numsB (ns.take k)).length ≤ 9000000000 := by omega
    rw [henc] at hel
    have hstep : numsB (ns.take (k + 1)) = numsB (ns.take k) ++ encN c0 := by
      rw [List.take_add_one, hx, numsB_app]
      show numsB (ns.take k) ++ numsB [n] = _
      rw [numsB1, henc]
    generalize numsB (ns.take k) = P at h2 hpl hstep
    refine ⟨fun vs w3 => ∃ (c : Nat) (Q : Bs) (o : Value), vs = [o, iv c] ∧ c ≤ 9223372036854775807 ∧ w3.ownsRow w.heap.size 5 1 o Q.length (bc Q) ∧ Q ++ encN c = P ++ encN c0 ∧ Fm (fun _ => False) w w3, fun vs _ => (nth vs 1).toNat, ⟨c0, P, _, rfl, by omega, h2, rfl, hf2⟩, ?_⟩
    rintro _ w3 ob ic ⟨c, Q, o, hvs, hcm, h3, hQ, hf3⟩
    cases hvs
    have hz3 := hf3.size
    have hQl : Q.length ≤ 10000000000 := by
      have := congrArg List.length hQ
      rw [List.length_append, List.length_append] at this
      omega
    by_cases hbig : 127 < c
    · have e2 : decide ((128 : Int) ≤ (c : Int)) = true := by rw [decide_eq_true_eq]; omega
      have e3 := rem_nat (TypeDesc.int IntKind.i64) (n := c) (m := 128) (by decide) hcm (b := 128) rfl
      have e4 := quo_nat (TypeDesc.int IntKind.i64) (n := c) (m := 128) (by decide) hcm (b := 128) rfl
      have e5 : IntKind.i64.wrap (((c % 128 : Nat) : Int) + 128) = ((c % 128 + 128 : Nat) : Int) := by rw [wrap_id] <;> omega
      have e6 : cvI .u8 (iv ((c % 128 + 128 : Nat) : Int)) = some (.int .u8 (((UInt8.ofNat (c % 128 + 128)).toNat : Nat) : Int)) := by
        show some (Value.int .u8 (IntKind.u8.wrap ((c % 128 + 128 : Nat) : Int))) = _
        rw [u8_wrap_nat, Nat.mod_eq_of_lt (by omega), u8_ofNat (by omega)]
      simp only [RS0, RS1, RS2, RS3, RS4, RS5, e2, e3, e5, e6]
      refine append_elF E38w (by omega) 123 (cs := [.int .u8 (UInt8.ofNat (c % 128 + 128)).toNat]) rfl (bs38w _ _) (by intro u hu; simp at hu; subst hu; rfl) h3 (by unfold maxLen; omega) (by omega) hz3 ?_
      intro v' w4 ho4 hcase
      have hF4 : Fm (fun _ => False) w w4 := by
        rcases hcase with ⟨g, k1, k2, k3⟩ | ⟨g, k1, k2, k3⟩
        · exact Fm.own hf3 k3 (by rintro y rfl; exact (own_lt h3 y k1).1)
        · exact Fmf hf3 k3
      rw [e4, Pu_some]
      refine ⟨⟨c / 128, Q ++ [UInt8.ofNat (c % 128 + 128)], v', rfl, by omega, ?_, ?_, hF4⟩, by simp only [nth_1]; omega⟩
      · rw [List.length_append, bc_append]; exact ho4
      · rw [← hQ, encN_big hbig, List.append_assoc]; rfl
    · have e2 : decide ((128 : Int) ≤ (c : Int)) = false := by rw [decide_eq_false_iff_not]; omega
      have e6 : IntKind.i64.wrap ((k : Int) + 1) = ((k + 1 : Nat) : Int) := by rw [wrap_id] <;> omega
      have e3 : cvI .u8 (iv c) = some (.int .u8 (((UInt8.ofNat c).toNat : Nat) : Int)) := by
        show some (Value.int .u8 (IntKind.u8.wrap (c : Int))) = _
        rw [u8_wrap_nat, Nat.mod_eq_of_lt (by omega), u8_ofNat (by omega)]
      simp only [RS0, RS1, RS2, RS3, RS4, RS5, e2, e3]
      refine append_elF E38w (by omega) 123 (cs := [.int .u8 (UInt8.ofNat c).toNat]) rfl (bs38w _ _) (by intro u hu; simp at hu; subst hu; rfl) h3 (by unfold maxLen; omega) (by omega) hz3 ?_
      intro v' w4 ho4 hcase
      have hF4 : Fm (fun _ => False) w w4 := by
        rcases hcase with ⟨g, k1, k2, k3⟩ | ⟨g, k1, k2, k3⟩
        · exact Fm.own hf3 k3 (by rintro y rfl; exact (own_lt h3 y k1).1)
        · exact Fmf hf3 k3
      rw [e6]
      refine ⟨⟨k + 1, v', rfl, by omega, ?_, hF4⟩, by simp only [nth_1]; omega⟩
      rw [hstep, ← hQ, encN_small (by omega), List.length_append, bc_append]
      exact ho4
  · have hke : k = ns.length := by omega
    subst hke
    have e1 : decide (((ns.length : Nat) : Int) < (ns.length : Int)) = false := by simp
    rw [List.take_length] at h2
    have hlenV := hns.lenV
    simp only [RS0, RS1, RS2, RS3, RS4, RS5, hlenV, e1]
    exact RunS_ok (conv_own B38 h2) ⟨rfl, hf2⟩
theorem rnum_lit {w : World} {n : Nat} {ns : List Int} {items : Array (Nat × Value)} (hb : (Instr.buildSlice 23 n items).run Tryz.prog w = .ok (.slice (some ⟨w.heap.size, 0, none⟩) n n) (w.alloc (.cells (ns.map iv).toArray 3))) (hn : ns.length = n) (hin : ∀ n ∈ ns, n ≤ 9223372036854775807) (hl : n ≤ 1000) {k : KV}
    (hk : ∀ w', Fm (fun _ => False) w w' → k (stv (numsB ns)) w') : RunS Tryz.prog (Instr.buildSlice 23 n items) w fun t w1 => Cl Tryz.prog 164 [t] w1 k := by
  refine RunS_ok hb ?_
  subst hn
  have hf := Fm.alloc (fun _ => False) w (.cells (ns.map iv).toArray 3)
  have hnew := own_new (w := w) (e := 3) (sz := 1) (base := w.heap.size) (n := ns.length) (l := ns.map iv) (by simp) (Nat.le_refl _) (by unfold maxLen; omega)
  refine (dnum_spec (CellsAt.of_own hnew) hin (by omega)).mono ?_
  rintro _ w2 ⟨rfl, hf2⟩
  exact hk w2 (Fmf hf hf2)
theorem dtext_spec (w : World) (s : Bs) (hs : s.length ≤ 1000000000) : Cl Tryz.prog 165 [stv s] w fun v w' => v = stv (txtB s) ∧ Fm (fun _ => False) w w' := by
  refine c165 ?_; unfold T165
  simp only [RS0, RS1, RS2, RS3, RS4, RS5, str_size]
  refine rnum_lit (bs47_1 _ _) rfl (by intro n hn; simp at hn; omega) (by omega) ?_
  intro w2 hf2
  rw [numsB1]
  have := encI_len (n := s.length) (by omega)
  rw [sadd (by omega)]
  try simp only [RS0, RS1, RS2, RS3, RS4, RS5]
  exact ⟨rfl, hf2⟩
theorem bare_spec {w : World} {cs : Array Value} {p : Pg} (h : PgAs w cs p) (hl : (pEnc p).1.length ≤ 1000000) : Cl Tryz.prog 166 [.agg cs] w fun v w' => v = stv (trimZ (pEnc p).1) ∧ Fm (fun _ => False) w w' := by
  have hsz : cs.size = 6 := by obtain ⟨v, rfl, _⟩ := h.ex; rfl
  refine c166 ?_; unfold T166
  refine New_any ?_
  intro x1 w1 hx1 hs1 hw1 hf1
  simp only [RS0, RS1, RS2, RS3, RS4, RS5, cellsV_blk hw1 hsz]
  refine (rencode_spec (h.keep hf1)).mono ?_
  rintro _ w2 ⟨rfl, hf2⟩
  have he : encR p = .tuple #[stv (pEnc p).1, iv (pErr p)] := by unfold encR; rw [pEnc_err]
  rw [he]
  generalize (pEnc p).1 = s at hl
  simp only [RS0, RS1, RS2, RS3, RS4, RS5]
  refine ⟨fun vs w3 => ∃ t : Bs, vs = [stv t] ∧ t.length ≤ s.length ∧ trimZ t = trimZ s ∧ w3 = w2, fun vs _ => match vs with
    | [.string b] => b.size
    | _ => 0, ⟨s, rfl, Nat.le_refl _, rfl, rfl⟩, ?_⟩
  rintro _ w3 tv ⟨t, hvs, hlt, htr, rfl⟩
  cases hvs
  simp only [RS0, RS1, RS2, RS3, RS4, RS5, str_size]
  by_cases h0 : 0 < t.length
  · have d1 : decide ((0 : Int) < (t.length : Int)) = true := by rw [decide_eq_true_eq]; omega
    have e5 : IntKind.i64.wrap ((t.length : Int) - 1) = ((t.length - 1 : Nat) : Int) := by rw [wrap_id] <;> omega
    have hx : t[t.length - 1]? = some t[t.length - 1] := List.getElem?_eq_getElem (by omega)
    generalize t[t.length - 1] = b at hx
    have hlast := trimZ_last hx
    have e6 := ixS_str hx .i64
    have e7 : ((b.toNat : Int) == 0) = decide (b = 0) := by
      rw [beq_dec, decide_eq_decide]
      constructor
      · intro e
        exact UInt8.toNat_inj.1 (by simpa using (show b.toNat = 0 by omega))
      · rintro rfl; rfl
    have e8 := slS_hi (l := t) (i := t.length - 1) (by omega) .i64
    simp only [RS0, RS1, RS2, RS3, RS4, RS5, d1, str_size, e5, e6, e7]
    cases hb : decide (b = 0) with
    | true =>
      rw [hb, cond_true] at hlast
      simp only [RS0, RS1, RS2, RS3, RS4, RS5, str_size, e5, e8]
      refine ⟨⟨t.take (t.length - 1), rfl, by rw [List.length_take]; omega, by rw [← hlast]; exact htr, (by trivial)⟩, ?_⟩
      simp only [str_size, List.length_take]; omega
    | false =>
      rw [hb, cond_false] at hlast
      simp only [RS0, RS1, RS2, RS3, RS4, RS5]
      exact ⟨by rw [← htr, hlast], Fmf hf1 hf2⟩
  · have ht0 : t = [] := List.eq_nil_of_length_eq_zero (by omega)
    subst ht0
    have d1 : decide ((0 : Int) < (([] : Bs).length : Int)) = false := by decide
    simp only [RS0, RS1, RS2, RS3, RS4, RS5, d1]
    exact ⟨by rw [← htr]; rfl, Fmf hf1 hf2⟩

end Go.Proofs.YthbngnlmgplijaaGreatDoor

namespace Go.Proofs.YthbngnlmgplijaaGreatDoor
open Go.Al Go.Proofs
set_option linter.unusedVariables false
set_option linter.unusedSimpArgs false
set_option linter.unusedSectionVars false
set_option maxRecDepth 100000

theorem cellsV_cell {w : World} {ad : Addr} {n : Nat} {cs : Array Value} (h : cellsV w ad n = some (.agg cs)) {i : Nat} {x : Value} (hx : cs[i]? = some x) : w.cell? (ad.add i) = some x := by
  have key : ∀ (n j : Nat) (l : List Value), cellsAt w ad j n = some l → ∀ (i : Nat) (x : Value), l[i]? = some x → w.cell? (ad.add (j + i)) = some x := by
    intro n
    induction n with
    | zero => intro j l hl i x hx; simp only [cellsAt, Option.some.injEq] at hl; subst hl; simp at hx
    | succ n ih =>
      intro j l hl i x hx
      simp only [cellsAt] at hl
      cases hc : w.cell? (ad.add j) with
      | none => rw [hc] at hl; cases hl
      | some v =>
        rw [hc] at hl
        cases hr : cellsAt w ad (j + 1) n with
        | none => rw [hr] at hl; cases hl
        | some l' =>
          rw [hr] at hl
          simp only [Option.map_some, Option.some.injEq] at hl
          subst hl
          cases i with
          | zero => simp at hx; subst hx; exact hc
          | succ i =>
            have := ih (j + 1) l' hr i x (by simpa using hx)
            rw [show j + (i + 1) = j + 1 + i by omega]; exact this
  unfold cellsV at h
  cases hc : cellsAt w ad 0 n with
  | none => rw [hc] at h; cases h
  | some l =>
    rw [hc] at h
    simp only [Option.map_some, Option.some.injEq, Value.agg.injEq] at h
    subst h
    have := key n 0 l hc i x (by simpa using hx)
    rw [Nat.zero_add] at this; exact this
def rangeR (r : Rc) : Bool := !(decide (r.lsn < 1) || (rNums r).any badN)
theorem prs_take_step {l : List (Int × Int)} {i : Nat} {m : Int × Int} (hx : l[i]? = some m) : (prs (l.take (i + 1))).any badN = ((prs (l.take i)).any badN || badN m.1 || badN m.2) := by
  rw [List.take_add_one, hx]
  simp [prs, Bool.or_assoc]
theorem prs_any_mem {l : List (Int × Int)} {m : Int × Int} (hm : m ∈ l) (hb : badN m.1 = true ∨ badN m.2 = true) : (prs l).any badN = true := by
  obtain ⟨q1, q2⟩ := mem_prs hm
  rcases hb with h | h
  · exact List.any_eq_true.2 ⟨_, q1, h⟩
  · exact List.any_eq_true.2 ⟨_, q2, h⟩
set_option maxHeartbeats 8000000 in
theorem ranges_spec {w : World} {cs : Array Value} {r : Rc} (h : RcAs w cs r) : Cl Tryz.prog 163 [.agg cs] w fun v w' => v = .bool (rangeR r) ∧ Fm (fun _ => False) w w' := by
  obtain ⟨vs, vm, vi, vp, vt, hcs, _, hs, hm, hi, hp, ht⟩ := h.ex
  have hbulk := h.bulk
  have hA : (rNums r).any badN = ([r.lsn, r.prev, r.next, r.redo, r.xid, r.page, r.slot, r.old, r.new].any badN || r.slots.any badN || r.more.any badN || (r.imgs.map (·.1)).any badN || (prs r.pages).any badN || (prs r.txns).any badN) := by
    unfold rNums
    simp only [List.any_append]
  refine c163 ?_; unfold T163
  refine New_any ?_
  intro x1 w1 hx1 hs1 hw1 hf1
  have hR1 : RB w1 x1 r vs vm vi vp vt := ⟨by rw [← hcs]; exact hw1⟩
  unfold rangeR
  rw [hA]
  simp only [RS0, RS1, RS2, RS3, RS4, RS5, hR1.c0]
  cases e1 : decide (r.lsn < 1) with
  | true =>
    simp only [RS0, RS1, RS2, RS3, RS4, RS5, Bool.true_or]
    exact ⟨(by trivial), hf1⟩
  | false =>
  simp only [RS0, RS1, RS2, RS3, RS4, RS5, hR1.c0, hR1.c1, hR1.c2, hR1.c9, hR1.c4, hR1.c5, hR1.c6, hR1.c7, hR1.c8, Bool.false_or]
  refine RunS_ok (bs47_9 _ _ _ _ _ _ _ _ _ _) ?_
  have hfa := Fm.alloc (fun _ => False) w1 (.cells ([r.lsn, r.prev, r.next, r.redo, r.xid, r.page, r.slot, r.old, r.new].map iv).toArray 3)
  have hnew := own_new (w := w1) (e := 3) (sz := 1) (base := w1.heap.size) (n := 9) (l := [r.lsn, r.prev, r.next, r.redo, r.xid, r.page, r.slot, r.old, r.new].map iv) rfl (Nat.le_refl _) (by decide)
  refine (lists_spec (L := [r.lsn, r.prev, r.next, r.redo, r.xid, r.page, r.slot, r.old, r.new]) (CellsAt.of_own hnew)).mono ?_
  rintro _ w2 ⟨rfl, rfl⟩
  have hF2 := Fmf hf1 hfa
  have hR2 := hR1.keep hfa (fun e => e)
  generalize (w1.alloc (.cells ([r.lsn, r.prev, r.next, r.redo, r.xid, r.page, r.slot, r.old, r.new].map iv).toArray 3)) = w2 at hF2 hR2
  generalize [r.lsn, r.prev, r.next, r.redo, r.xid, r.page, r.slot, r.old, r.new].any badN = b9
  clear hnew hfa
  have hs2 := hs.keep hF2 (fun _ _ e => e)
  have hm2 := hm.keep hF2 (fun _ _ e => e)
  have hi2 := hi.keep hF2
  have hp2 := hp.keep hF2 (fun _ _ e => e)
  have ht2 := ht.keep hF2 (fun _ _ e => e)
  cases b9 with
  | true =>
    simp only [RS0, RS1, RS2, RS3, RS4, RS5, Bool.true_or]
    exact ⟨(by trivial), hF2⟩
  | false =>
  simp only [RS0, RS1, RS2, RS3, RS4, RS5, Bool.false_or, hR2.c11]
  refine (lists_spec hs2).mono ?_
  rintro _ w3 ⟨rfl, rfl⟩
  cases q1 : r.slots.any badN with
  | true =>
    simp only [RS0, RS1, RS2, RS3, RS4, RS5, Bool.true_or]
    exact ⟨(by trivial), hF2⟩
  | false =>
  simp only [RS0, RS1, RS2, RS3, RS4, RS5, Bool.false_or, hR2.c12]
  refine (lists_spec hm2).mono ?_
  rintro _ w4 ⟨rfl, rfl⟩
  cases q2 : r.more.any badN with
  | true =>
    simp only [RS0, RS1, RS2, RS3, RS4, RS5, Bool.true_or]
    exact ⟨(by trivial), hF2⟩
  | false =>
  simp only [RS0, RS1, RS2, RS3, RS4, RS5, Bool.false_or]
  refine ⟨fun vl w5 => ∃ i : Nat, vl = [iv i] ∧ i ≤ r.imgs.length ∧ ((r.imgs.take i).map (·.1)).any badN = false ∧ w5 = w4, fun vl _ => (r.imgs.length - nth vl 0).toNat, ⟨0, rfl, by omega, rfl, rfl⟩, ?_⟩
  rintro _ w5 iv5 ⟨i, hvl, hile, hno, rfl⟩
  cases hvl
  by_cases hlt : i < r.imgs.length
  · have hx : r.imgs[i]? = some r.imgs[i] := List.getElem?_eq_getElem hlt
    generalize r.imgs[i] = m at hx
    have hmm := List.mem_of_getElem? hx
    obtain ⟨ad, u, hix, hcv, hone, hpg⟩ := hi2.ld hx
    have hc0 : w5.cell? ad = some (iv m.1) := by
      have := cellsV_cell hcv (i := 0) (x := iv m.1) rfl
      rw [Go.Al.add_zero] at this; exact this
    have d2 : decide ((i : Int) < (r.imgs.length : Int)) = true := by rw [decide_eq_true_eq]; omega
    have e2 : IntKind.i64.wrap ((i : Int) + 1) = ((i + 1 : Nat) : Int) := by rw [wrap_id] <;> omega
    simp only [RS0, RS1, RS2, RS3, RS4, RS5, hR2.c13, hi2.lenV, d2, hix, hc0]
    refine (within_spec w5 m.1).mono ?_
    rintro _ w6 ⟨rfl, rfl⟩
    cases hb : badN m.1 with
    | true =>
      simp only [RS0, RS1, RS2, RS3, RS4, RS5]
      have : (r.imgs.map (·.1)).any badN = true := List.any_eq_true.2 ⟨_, List.mem_map.2 ⟨m, hmm, rfl⟩, hb⟩
      rw [this]
      exact ⟨(by trivial), hF2⟩
    | false =>
      simp only [RS0, RS1, RS2, RS3, RS4, RS5, e2]
      refine ⟨⟨i + 1, rfl, by omega, ?_, (by trivial)⟩, by simp only [nth_0]; omega⟩
      rw [List.take_add_one, hx, List.map_append, List.any_append, hno]
      simp [hb]
  have hie : i = r.imgs.length := by omega
  subst hie
  have d2 : decide (((r.imgs.length : Nat) : Int) < (r.imgs.length : Int)) = false := by simp
  rw [List.take_length] at hno
  rw [hno]
  simp only [RS0, RS1, RS2, RS3, RS4, RS5, hR2.c13, hi2.lenV, d2, Bool.false_or]
  clear hno d2 hlt
  refine ⟨fun vl w6 => ∃ i : Nat, vl = [iv i] ∧ i ≤ r.pages.length ∧ (prs (r.pages.take i)).any badN = false ∧ w6 = w5, fun vl _ => (r.pages.length - nth vl 0).toNat, ⟨0, rfl, by omega, rfl, rfl⟩, ?_⟩
  rintro _ w6 iv6 ⟨i, hvl, hile, hno, rfl⟩
  cases hvl
  by_cases hlt : i < r.pages.length
  · have hx : r.pages[i]? = some r.pages[i] := List.getElem?_eq_getElem hlt
    generalize r.pages[i] = m at hx
    have hmm := List.mem_of_getElem? hx
    obtain ⟨ad, hix, hcv, _⟩ := cells_ld pc2_len (by omega) hp2 hx
    have hc0 : w6.cell? ad = some (iv m.1) := by
      have := cellsV_cell hcv (i := 0) (x := iv m.1) rfl
      rw [Go.Al.add_zero] at this; exact this
    have hc1 : w6.cell? (ad.add 1) = some (iv m.2) := cellsV_cell hcv (i := 1) (x := iv m.2) rfl
    have d2 : decide ((i : Int) < (r.pages.length : Int)) = true := by rw [decide_eq_true_eq]; omega
    have e2 : IntKind.i64.wrap ((i : Int) + 1) = ((i + 1 : Nat) : Int) := by rw [wrap_id] <;> omega
    have hstep := prs_take_step hx
    simp only [RS0, RS1, RS2, RS3, RS4, RS5, hR2.c14, hp2.lenV, d2, hix, hc0]
    refine (within_spec w6 m.1).mono ?_
    rintro _ w7 ⟨rfl, rfl⟩
    cases hb : badN m.1 with
    | true =>
      simp only [RS0, RS1, RS2, RS3, RS4, RS5]
      rw [prs_any_mem hmm (.inl hb)]
      exact ⟨(by trivial), hF2⟩
    | false =>
      simp only [RS0, RS1, RS2, RS3, RS4, RS5, hR2.c14, hix, hc1]
      refine (within_spec w7 m.2).mono ?_
      rintro _ w8 ⟨rfl, rfl⟩
      cases hb2 : badN m.2 with
      | true =>
        simp only [RS0, RS1, RS2, RS3, RS4, RS5]
        rw [prs_any_mem hmm (.inr hb2)]
        exact ⟨(by trivial), hF2⟩
      | false =>
        simp only [RS0, RS1, RS2, RS3, RS4, RS5, e2]
        refine ⟨⟨i + 1, rfl, by omega, ?_, (by trivial)⟩, by simp only [nth_0]; omega⟩
        rw [hstep, hno, hb, hb2]; rfl
  have hie : i = r.pages.length := by omega
  subst hie
  have d2 : decide (((r.pages.length : Nat) : Int) < (r.pages.length : Int)) = false := by simp
  rw [List.take_length] at hno
  rw [hno]
  simp only [RS0, RS1, RS2, RS3, RS4, RS5, hR2.c14, hp2.lenV, d2, Bool.false_or]
  clear hno d2 hlt
  refine ⟨fun vl w7 => ∃ i : Nat, vl = [iv i] ∧ i ≤ r.txns.length ∧ (prs (r.txns.take i)).any badN = false ∧ w7 = w6, fun vl _ => (r.txns.length - nth vl 0).toNat, ⟨0, rfl, by omega, rfl, rfl⟩, ?_⟩
  rintro _ w7 iv7 ⟨i, hvl, hile, hno, rfl⟩
  cases hvl
  by_cases hlt : i < r.txns.length
  · have hx : r.txns[i]? = some r.txns[i] := List.getElem?_eq_getElem hlt
    generalize r.txns[i] = m at hx
    have hmm := List.mem_of_getElem? hx
    obtain ⟨ad, hix, hcv, _⟩ := cells_ld pc2_len (by omega) ht2 hx
    have hc0 : w7.cell? ad = some (iv m.1) := by
      have := cellsV_cell hcv (i := 0) (x := iv m.1) rfl
      rw [Go.Al.add_zero] at this; exact this
    have hc1 : w7.cell? (ad.add 1) = some (iv m.2) := cellsV_cell hcv (i := 1) (x := iv m.2) rfl
    have d2 : decide ((i : Int) < (r.txns.length : Int)) = true := by rw [decide_eq_true_eq]; omega
    have e2 : IntKind.i64.wrap ((i : Int) + 1) = ((i + 1 : Nat) : Int) := by rw [wrap_id] <;> omega
    have hstep := prs_take_step hx
    simp only [RS0, RS1, RS2, RS3, RS4, RS5, hR2.c15, ht2.lenV, d2, hix, hc0]
    refine (within_spec w7 m.1).mono ?_
    rintro _ w8 ⟨rfl, rfl⟩
    cases hb : badN m.1 with
    | true =>
      simp only [RS0, RS1, RS2, RS3, RS4, RS5]
      rw [prs_any_mem hmm (.inl hb)]
      exact ⟨(by trivial), hF2⟩
    | false =>
      simp only [RS0, RS1, RS2, RS3, RS4, RS5, hR2.c15, hix, hc1]
      refine (within_spec w8 m.2).mono ?_
      rintro _ w9 ⟨rfl, rfl⟩
      cases hb2 : badN m.2 with
      | true =>
        simp only [RS0, RS1, RS2, RS3, RS4, RS5]
        rw [prs_any_mem hmm (.inr hb2)]
        exact ⟨(by trivial), hF2⟩
      | false =>
        simp only [RS0, RS1, RS2, RS3, RS4, RS5, e2]
        refine ⟨⟨i + 1, rfl, by omega, ?_, (by trivial)⟩, by simp only [nth_0]; omega⟩
        rw [hstep, hno, hb, hb2]; rfl
  have hie : i = r.txns.length := by omega
  subst hie
  have d2 : decide (((r.txns.length : Nat) : Int) < (r.txns.length : Int)) = false := by simp
  rw [List.take_length] at hno
  rw [hno]
  simp only [RS0, RS1, RS2, RS3, RS4, RS5, hR2.c15, ht2.lenV, d2]
  exact ⟨(by trivial), hF2⟩

end Go.Proofs.YthbngnlmgplijaaGreatDoor

namespace Go.Proofs.YthbngnlmgplijaaGreatDoor
open Go.Al Go.Proofs
set_option linter.unusedVariables false
set_option linter.unusedSimpArgs false
set_option linter.unusedSectionVars false
set_option maxRecDepth 100000

structure OS (w0 w : World) (v : Value) (B : Bs) : Prop where
  o : OutAt w w0.heap.size 5 v B
  fm : Fm (fun _ => False) w0 w
theorem OS.keep {w0 w w' : World} {v : Value} {B : Bs} (h : OS w0 w v B) (hf : Fm (fun _ => False) w w') : OS w0 w' v B := ⟨h.o.keep hf (fun _ _ _ e => e), Fmf h.fm hf⟩
theorem OS.app {w0 w : World} {v : Value} {B : Bs} (h : OS w0 w v B) (x : Bs) (hl : B.length + x.length ≤ 100000000000) {k : KV} (hk : ∀ v' w', OS w0 w' v' (B ++ x) → k v' w') : RunS Tryz.prog (Builtin.append_ #[123, 9] 123 #[v, stv x]) w k := by
  obtain ⟨v', w', hr, ho, hf⟩ := h.o.app B38 x 123 hl h.fm.size
  exact RunS_ok hr (hk v' w' ⟨ho, Fm.own h.fm hf (fun _ e => e)⟩)
theorem OS.num {w0 w : World} {v : Value} {B : Bs} (h : OS w0 w v B) {u : Value} {ns : List Int} (hns : CellsAt w u ns.length 1 (ns.map iv)) (hin : ∀ n ∈ ns, n ≤ 9223372036854775807) (hl : B.length + 9 * ns.length ≤ 1000000000) {k : KV}
    (hk : ∀ v' w', OS w0 w' v' (B ++ numsB ns) → k v' w') : Cl Tryz.prog 164 [u] w fun t2 w2 => RunS Tryz.prog (Builtin.append_ #[123, 9] 123 #[v, t2]) w2 k := by
  refine (dnum_spec hns hin (by omega)).mono ?_
  rintro _ w2 ⟨rfl, hf2⟩
  have := numsB_len hin
  exact (h.keep hf2).app (numsB ns) (by omega) hk
theorem OS.lit {w0 w : World} {v : Value} {B : Bs} (h : OS w0 w v B) {n : Nat} {ns : List Int} {items : Array (Nat × Value)} (hb : (Instr.buildSlice 23 n items).run Tryz.prog w = .ok (.slice (some ⟨w.heap.size, 0, none⟩) n n) (w.alloc (.cells (ns.map iv).toArray 3))) (hn : ns.length = n) (hin : ∀ n ∈ ns, n ≤ 9223372036854775807) (hl : B.length + 9 * n ≤ 1000000000) {k : KV}
    (hk : ∀ v' w', OS w0 w' v' (B ++ numsB ns) → k v' w') : RunS Tryz.prog (Instr.buildSlice 23 n items) w fun t w1 => Cl Tryz.prog 164 [t] w1 fun t2 w2 => RunS Tryz.prog (Builtin.append_ #[123, 9] 123 #[v, t2]) w2 k := by
  refine RunS_ok hb ?_
  subst hn
  have hf := Fm.alloc (fun _ => False) w (.cells (ns.map iv).toArray 3)
  have hnew := own_new (w := w) (e := 3) (sz := 1) (base := w.heap.size) (n := ns.length) (l := ns.map iv) (by simp) (Nat.le_refl _) (by unfold maxLen; omega)
  exact (h.keep hf).num (CellsAt.of_own hnew) hin hl hk
theorem im_sub {w : World} {ad : Addr} {m : Int} {p : Pg} {u : Value} (h : cellsV w ad 7 = some (.agg (imC (m, p, u)).toArray)) : cellsV w (ad.add 1) 6 = some (.agg (pcs p u)) := by
  refine cellsV_of (l := (pcs p u).toList) rfl fun j hj => ?_
  rw [add_add, Nat.add_comm 1 j]
  have hx : (imC (m, p, u)).toArray[j + 1]? = (pcs p u).toList[j]? := by
    rw [List.getElem?_toArray]; rfl
  have hlt : j < (pcs p u).toList.length := hj
  rw [List.getElem?_eq_getElem hlt] at hx ⊢
  exact cellsV_cell h (i := j + 1) hx

set_option maxHeartbeats 16000000 in
theorem rbody_spec {w : World} {cs : Array Value} {r : Rc} (h : RcAs w cs r) (hlong : longR r = false) (hi0 : ∀ m ∈ r.imgs, pErr m.2 = 0) : Cl Tryz.prog 87 [.agg cs] w fun v w' => v = stv (rBody r) ∧ Fm (fun _ => False) w w' := by
  obtain ⟨vs, vm, vi, vp, vt, hcs, _, hs, hm, hi, hp, ht⟩ := h.ex
  simp only [longR, Bool.or_eq_false_iff, decide_eq_false_iff_not] at hlong
  obtain ⟨⟨⟨⟨⟨l1, l2⟩, l3⟩, l4⟩, l5⟩, l6⟩ := hlong
  have hins := h.ins
  have hk8 := h.kin
  have n9 : ∀ n ∈ [r.lsn, r.prev, r.next, r.redo, r.xid, r.page, r.slot, r.old, r.new], In n := fun n hn => hins n (by unfold rNums; simp only [List.mem_append]; exact .inl (.inl (.inl (.inl (.inl hn)))))
  have nsl : ∀ n ∈ r.slots, n ≤ 9223372036854775807 := fun n hn => (hins n (by unfold rNums; simp only [List.mem_append]; exact .inl (.inl (.inl (.inl (.inr hn)))))).2
  have nmo : ∀ n ∈ r.more, n ≤ 9223372036854775807 := fun n hn => (hins n (by unfold rNums; simp only [List.mem_append]; exact .inl (.inl (.inl (.inr hn))))).2
  have nim : ∀ m ∈ r.imgs, m.1 ≤ 9223372036854775807 := fun m hm => (hins m.1 (by unfold rNums; simp only [List.mem_append]; exact .inl (.inl (.inr (List.mem_map.2 ⟨m, hm, rfl⟩))))).2
  have npg : ∀ m ∈ r.pages, m.1 ≤ 9223372036854775807 ∧ m.2 ≤ 9223372036854775807 := fun m hm => ⟨(hins m.1 (by unfold rNums; simp only [List.mem_append]; exact .inl (.inr (mem_prs hm).1))).2, (hins m.2 (by unfold rNums; simp only [List.mem_append]; exact .inl (.inr (mem_prs hm).2))).2⟩
  have ntx : ∀ m ∈ r.txns, m.1 ≤ 9223372036854775807 ∧ m.2 ≤ 9223372036854775807 := fun m hm => ⟨(hins m.1 (by unfold rNums; simp only [List.mem_append]; exact .inr (mem_prs hm).1)).2, (hins m.2 (by unfold rNums; simp only [List.mem_append]; exact .inr (mem_prs hm).2)).2⟩
  have nhd : ∀ n ∈ headL r, n ≤ 9223372036854775807 := fun n hn => by
    unfold headL at hn
    simp only [List.mem_cons, List.not_mem_nil, or_false] at hn
    rcases hn with rfl | rfl | rfl | rfl | rfl | rfl | rfl | rfl | rfl | rfl <;> first | omega | exact (n9 _ (by simp)).2
  refine c87 ?_; unfold T87
  refine New_any ?_
  intro x1 w1 hx1 hs1 hw1 hf1
  have hR1 : RB w1 x1 r vs vm vi vp vt := ⟨by rw [← hcs]; exact hw1⟩
  have kS : ∀ {w'}, Fm (fun _ => False) w1 w' → CellsAt w' vs r.slots.length 1 (r.slots.map iv) := fun hf => hs.keep (Fmf hf1 hf) (fun _ _ e => e)
  have kM : ∀ {w'}, Fm (fun _ => False) w1 w' → CellsAt w' vm r.more.length 1 (r.more.map iv) := fun hf => hm.keep (Fmf hf1 hf) (fun _ _ e => e)
  have kI : ∀ {w'}, Fm (fun _ => False) w1 w' → ImAs w' vi r.imgs := fun hf => hi.keep (Fmf hf1 hf)
  have kP : ∀ {w'}, Fm (fun _ => False) w1 w' → CellsAt w' vp r.pages.length 2 (r.pages.flatMap pc2) := fun hf => hp.keep (Fmf hf1 hf) (fun _ _ e => e)
  have kT : ∀ {w'}, Fm (fun _ => False) w1 w' → CellsAt w' vt r.txns.length 2 (r.txns.flatMap pc2) := fun hf => ht.keep (Fmf hf1 hf) (fun _ _ e => e)
  have kR : ∀ {w'}, Fm (fun _ => False) w1 w' → RB w' x1 r vs vm vi vp vt := fun hf => hR1.keep hf (fun e => e)
  have ek : IntKind.i64.wrap r.kind = r.kind := by rw [wrap_id]; omega
  have ekc : cvI .i64 (.int .u8 r.kind) = some (iv r.kind) := by
    show some (Value.int .i64 (IntKind.i64.wrap r.kind)) = _
    rw [ek]
  refine ⟨fun w' => w'.cell? ⟨x1, 10, none⟩ = some (stv r.data), (kR (Fm.drew _ w1)).c10, ?_⟩
  simp only [RS0, RS1, RS2, RS3, RS4, RS5, hR1.c0, hR1.c1, hR1.c2, hR1.c3, hR1.c4, hR1.c5, hR1.c6, hR1.c7, hR1.c8, hR1.c9, ekc, true_and]
  refine ⟨stv r.data, fun w9 h9 => ?_, ?_⟩
  · simp only [RS0, RS1, RS2, RS3, RS4, RS5, h9]; trivial
  have hfd := Fm.drew (fun _ => False) w1
  generalize w1.drew = w2 at hfd
  refine RunS_ok (bs47_10 _ _ _ _ _ _ _ _ _ _ _) ?_
  have hfa := Fm.alloc (fun _ => False) w2 (.cells ((headL r).map iv).toArray 3)
  have hnew := own_new (w := w2) (e := 3) (sz := 1) (base := w2.heap.size) (n := 10) (l := (headL r).map iv) rfl (Nat.le_refl _) (by decide)
  have hF3 := Fmf hfd hfa
  refine ⟨(kR hF3).c10, ?_⟩
  refine (dnum_spec (ns := headL r) (CellsAt.of_own hnew) nhd (by simp [headL])).mono ?_
  rintro _ w3 ⟨rfl, hf3⟩
  replace hF3 := Fmf hF3 hf3
  refine ⟨(kR hF3).c10, ?_⟩
  refine (dtext_spec w3 r.data (by omega)).mono ?_
  rintro _ w4 ⟨rfl, hf4⟩
  replace hF3 := Fmf hF3 hf4
  clear hf4 hf3 hnew hfa hfd
  have hl3 : (numsB (headL r)).length ≤ 90 := by have := numsB_len nhd; exact this
  have hlt4 : (txtB r.data).length ≤ 600 := by
    have := encI_len (n := r.data.length) (by omega)
    unfold txtB; rw [List.length_append]; omega
  rw [sadd (by omega)]
  try simp only [RS0, RS1, RS2, RS3, RS4, RS5]
  have hl4 : (numsB (headL r) ++ txtB r.data).length ≤ 700 := by rw [List.length_append]; omega
  generalize hB4 : numsB (headL r) ++ txtB r.data = B4 at hl4
  obtain ⟨v5, w5, hr5, ho5, hf5⟩ := OutAt.new B38 w4 B4 (by unfold maxLen; omega) hF3.size
  refine RunS_ok hr5 ?_
  have h5 : OS w1 w5 v5 B4 := ⟨ho5, Fmf hF3 hf5⟩
  clear ho5 hf5 hr5 hF3
  simp only [RS0, RS1, RS2, RS3, RS4, RS5, (kR h5.fm).c11, (kS h5.fm).lenV]
  have hls : (listB r.slots).length ≤ 2400 := by
    have := numsB_len nsl
    have := encI_len (n := r.slots.length) (by omega)
    unfold listB; rw [List.length_append]; omega
  have hlm : (listB r.more).length ≤ 2400 := by
    have := numsB_len nmo
    have := encI_len (n := r.more.length) (by omega)
    unfold listB; rw [List.length_append]; omega
  have eS := encI_len (n := r.slots.length) (by omega)
  have eM := encI_len (n := r.more.length) (by omega)
  have eI := encI_len (n := r.imgs.length) (by omega)
  have eP := encI_len (n := r.pages.length) (by omega)
  have eT := encI_len (n := r.txns.length) (by omega)
  refine h5.lit (bs47_1 _ _) rfl (by intro n hn; simp at hn; omega) (by omega) ?_
  intro v6 w6 h6
  rw [numsB1] at h6
  simp only [RS0, RS1, RS2, RS3, RS4, RS5, (kR h6.fm).c11]
  refine h6.num (kS h6.fm) nsl (by rw [List.length_append]; omega) ?_
  intro v7 w7 h7
  replace h7 : OS w1 w7 v7 (B4 ++ listB r.slots) := by have := h7; rw [List.append_assoc] at this; exact this
  simp only [RS0, RS1, RS2, RS3, RS4, RS5, (kR h7.fm).c12, (kM h7.fm).lenV]
  refine h7.lit (bs47_1 _ _) rfl (by intro n hn; simp at hn; omega) (by rw [List.length_append]; omega) ?_
  intro v8 w8 h8
  rw [numsB1] at h8
  simp only [RS0, RS1, RS2, RS3, RS4, RS5, (kR h8.fm).c12]
  refine h8.num (kM h8.fm) nmo (by simp only [List.length_append]; omega) ?_
  intro v9 w9 h9
  replace h9 : OS w1 w9 v9 (B4 ++ listB r.slots ++ listB r.more) := by have := h9; rw [List.append_assoc (B4 ++ listB r.slots)] at this; exact this
  have hl5 : (B4 ++ listB r.slots ++ listB r.more).length ≤ 6000 := by simp only [List.length_append]; omega
  generalize hB5 : B4 ++ listB r.slots ++ listB r.more = B5 at h9 hl5
  simp only [RS0, RS1, RS2, RS3, RS4, RS5, (kR h9.fm).c13, (kI h9.fm).lenV]
  refine h9.lit (bs47_1 _ _) rfl (by intro n hn; simp at hn; omega) (by omega) ?_
  intro v10 w10 h10
  rw [numsB1] at h10
  have hl6 : (B5 ++ encI (r.imgs.length : Int)).length ≤ 6010 := by rw [List.length_append]; omega
  generalize hB6 : B5 ++ encI (r.imgs.length : Int) = B6 at h10 hl6
  refine ⟨fun vl w' => ∃ (i : Nat) (o : Value), vl = [o, iv i] ∧ i ≤ r.imgs.length ∧ OS w1 w' o (B6 ++ (r.imgs.take i).flatMap imgB) ∧ (B6 ++ (r.imgs.take i).flatMap imgB).length ≤ 6010 + 600 * i, fun vl _ => (r.imgs.length - nth vl 1).toNat, ⟨0, _, rfl, by omega, by simpa using h10, by simpa using hl6⟩, ?_⟩
  rintro _ w11 ov iw ⟨i, o, hvl, hile, h11, hl11⟩
  cases hvl
  have hR11 := kR h11.fm
  have hI11 := kI h11.fm
  by_cases hlt : i < r.imgs.length
  · have hx : r.imgs[i]? = some r.imgs[i] := List.getElem?_eq_getElem hlt
    generalize r.imgs[i] = m at hx
    have hmm := List.mem_of_getElem? hx
    obtain ⟨ad, u, hix, hcv, hone, hpg⟩ := hI11.ld hx
    have hc0 : w11.cell? ad = some (iv m.1) := by
      have := cellsV_cell hcv (i := 0) (x := iv m.1) rfl
      rw [Go.Al.add_zero] at this; exact this
    have d2 : decide ((i : Int) < (r.imgs.length : Int)) = true := by rw [decide_eq_true_eq]; omega
    have e1 : IntKind.i64.wrap ((i : Int) + 1) = ((i + 1 : Nat) : Int) := by rw [wrap_id] <;> omega
    have h0 := hi0 m hmm
    have hlen := pEnc_len h0
    simp only [RS0, RS1, RS2, RS3, RS4, RS5, hR11.c13, hI11.lenV, d2]
    have hsub := im_sub hcv
    refine ⟨fun w' => w'.cell? ⟨x1, 13, none⟩ = some vi ∧ cellsV w' (ad.add 1) 6 = some (.agg (pcs m.2 u)), ⟨hR11.c13, cellsV_keep hsub (Fm.drew (fun _ => False) w11) (fun e => e)⟩, ?_⟩
    simp only [RS0, RS1, RS2, RS3, RS4, RS5, hR11.c13, hix, hc0, true_and]
    refine ⟨vi, fun w9 h9 => ?_, ?_⟩
    · simp only [RS0, RS1, RS2, RS3, RS4, RS5, h9.1]; trivial
    simp only [RS0, RS1, RS2, RS3, RS4, RS5, hix]
    refine ⟨.agg (pcs m.2 u), fun w9 h9 => ?_, ?_⟩
    · simp only [RS0, RS1, RS2, RS3, RS4, RS5, h9.2]; trivial
    have hfd := Fm.drew (fun _ => False) w11
    have h12 := h11.keep hfd
    generalize w11.drew = w12 at hfd h12
    refine RunS_ok (bs47_1 _ _) ?_
    have hfa := Fm.alloc (fun _ => False) w12 (.cells ([m.1].map iv).toArray 3)
    have hnew := own_new (w := w12) (e := 3) (sz := 1) (base := w12.heap.size) (n := 1) (l := [m.1].map iv) rfl (Nat.le_refl _) (by decide)
    have hF13 := Fmf hfd hfa
    refine ⟨⟨(hR11.keep hF13 (fun e => e)).c13, cellsV_keep hsub hF13 (fun e => e)⟩, ?_⟩
    refine (dnum_spec (ns := [m.1]) (CellsAt.of_own hnew) (by intro n hn; simp at hn; subst hn; exact nim m hmm) (by simp)).mono ?_
    rintro _ w13 ⟨rfl, hf13⟩
    replace hF13 := Fmf hF13 hf13
    refine ⟨⟨(hR11.keep hF13 (fun e => e)).c13, cellsV_keep hsub hF13 (fun e => e)⟩, ?_⟩
    refine (bare_spec (hpg.keep hF13) (by omega)).mono ?_
    rintro _ w14 ⟨rfl, hf14⟩
    obtain ⟨_, htl⟩ := trim_pad hlen
    have hel := encI_len (nim m hmm)
    have hel2 := encI_len (n := (trimZ (pEnc m.2).1).length) (by omega)
    refine (dtext_spec w14 _ (by omega)).mono ?_
    rintro _ w15 ⟨rfl, hf15⟩
    replace hF13 := Fmf hF13 (Fmf hf14 hf15)
    rw [numsB1]
    have htx : (txtB (trimZ (pEnc m.2).1)).length ≤ 530 := by unfold txtB; rw [List.length_append]; omega
    rw [sadd (by omega)]
    try simp only [RS0, RS1, RS2, RS3, RS4, RS5]
    have hq : (encI m.1 ++ txtB (trimZ (pEnc m.2).1)).length ≤ 540 := by rw [List.length_append]; omega
    refine (h11.keep hF13).app _ (by omega) ?_
    intro v16 w16 h16
    simp only [RS0, RS1, RS2, RS3, RS4, RS5, e1]
    have e2 : B6 ++ (r.imgs.take (i + 1)).flatMap imgB = B6 ++ (r.imgs.take i).flatMap imgB ++ (encI m.1 ++ txtB (trimZ (pEnc m.2).1)) := by rw [List.take_add_one, hx]; simp [imgB]
    refine ⟨⟨i + 1, _, rfl, by omega, by rw [e2]; exact h16, ?_⟩, by simp only [nth_1]; omega⟩
    rw [e2]
    simp only [List.length_append] at hl11 ⊢
    omega
  have hie2 : i = r.imgs.length := by omega
  subst hie2
  have d2 : decide (((r.imgs.length : Nat) : Int) < (r.imgs.length : Int)) = false := by simp
  rw [List.take_length] at h11 hl11
  have hl7' : (B6 ++ r.imgs.flatMap imgB).length ≤ 9000 := by omega
  generalize hB7 : B6 ++ r.imgs.flatMap imgB = B7 at h11 hl7'
  simp only [RS0, RS1, RS2, RS3, RS4, RS5, hR11.c13, hI11.lenV, d2, hR11.c14, (kP h11.fm).lenV]
  refine h11.lit (bs47_1 _ _) rfl (by intro n hn; simp at hn; omega) (by omega) ?_
  intro v20 w20 h20
  rw [numsB1] at h20
  have hl16 : (B7 ++ encI (r.pages.length : Int)).length ≤ 9100 := by rw [List.length_append]; omega
  generalize hB16 : B7 ++ encI (r.pages.length : Int) = B16 at h20 hl16
  clear hlt hl11 h11 hR11 hI11 d2
  refine ⟨fun vl w' => ∃ (i : Nat) (o : Value), vl = [o, iv i] ∧ i ≤ r.pages.length ∧ OS w1 w' o (B16 ++ (r.pages.take i).flatMap prB) ∧ (B16 ++ (r.pages.take i).flatMap prB).length ≤ 9100 + 18 * i, fun vl _ => (r.pages.length - nth vl 1).toNat, ⟨0, _, rfl, by omega, by simpa using h20, by simpa using hl16⟩, ?_⟩
  rintro _ w21 ov iw ⟨i, o, hvl, hile, h21, hl21⟩
  cases hvl
  have hR21 := kR h21.fm
  have hP21 := kP h21.fm
  by_cases hlt : i < r.pages.length
  · have hx : r.pages[i]? = some r.pages[i] := List.getElem?_eq_getElem hlt
    generalize r.pages[i] = m at hx
    have hmm := List.mem_of_getElem? hx
    obtain ⟨ad, hix, hcv, _⟩ := cells_ld pc2_len (by omega) hP21 hx
    have hc0 : w21.cell? ad = some (iv m.1) := by
      have := cellsV_cell hcv (i := 0) (x := iv m.1) rfl
      rw [Go.Al.add_zero] at this; exact this
    have hc1 : w21.cell? (ad.add 1) = some (iv m.2) := cellsV_cell hcv (i := 1) (x := iv m.2) rfl
    have d2 : decide ((i : Int) < (r.pages.length : Int)) = true := by rw [decide_eq_true_eq]; omega
    have e1 : IntKind.i64.wrap ((i : Int) + 1) = ((i + 1 : Nat) : Int) := by rw [wrap_id] <;> omega
    obtain ⟨hm1, hm2⟩ := npg m hmm
    simp only [RS0, RS1, RS2, RS3, RS4, RS5, hR21.c14, hP21.lenV, d2, hix, hc0, hc1, true_and]
    have h22 := h21.keep (Fm.drew (fun _ => False) w21)
    refine h22.lit (bs47_2 _ _ _) rfl (by intro n hn; simp at hn; rcases hn with rfl | rfl <;> assumption) (by omega) ?_
    intro v23 w23 h23
    rw [numsB2] at h23
    simp only [RS0, RS1, RS2, RS3, RS4, RS5, e1]
    have e2 : B16 ++ (r.pages.take (i + 1)).flatMap prB = B16 ++ (r.pages.take i).flatMap prB ++ prB (m.1, m.2) := by rw [List.take_add_one, hx]; simp
    refine ⟨⟨i + 1, _, rfl, by omega, by rw [e2]; exact h23, ?_⟩, by simp only [nth_1]; omega⟩
    rw [e2]
    have := prB_len (p := (m.1, m.2)) hm1 hm2
    rw [List.length_append]
    omega
  have hie2 : i = r.pages.length := by omega
  subst hie2
  have d2 : decide (((r.pages.length : Nat) : Int) < (r.pages.length : Int)) = false := by simp
  rw [List.take_length] at h21 hl21
  have hl17' : (B16 ++ r.pages.flatMap prB).length ≤ 160000 := by omega
  generalize hB17 : B16 ++ r.pages.flatMap prB = B17 at h21 hl17'
  simp only [RS0, RS1, RS2, RS3, RS4, RS5, hR21.c14, hP21.lenV, d2, hR21.c15, (kT h21.fm).lenV]
  refine h21.lit (bs47_1 _ _) rfl (by intro n hn; simp at hn; omega) (by omega) ?_
  intro v30 w30 h30
  rw [numsB1] at h30
  have hl26 : (B17 ++ encI (r.txns.length : Int)).length ≤ 160100 := by rw [List.length_append]; omega
  generalize hB26 : B17 ++ encI (r.txns.length : Int) = B26 at h30 hl26
  clear hlt hl21 h21 hR21 hP21 d2
  refine ⟨fun vl w' => ∃ (i : Nat) (o : Value), vl = [o, iv i] ∧ i ≤ r.txns.length ∧ OS w1 w' o (B26 ++ (r.txns.take i).flatMap prB) ∧ (B26 ++ (r.txns.take i).flatMap prB).length ≤ 160100 + 18 * i, fun vl _ => (r.txns.length - nth vl 1).toNat, ⟨0, _, rfl, by omega, by simpa using h30, by simpa using hl26⟩, ?_⟩
  rintro _ w31 ov iw ⟨i, o, hvl, hile, h31, hl31⟩
  cases hvl
  have hR31 := kR h31.fm
  have hT31 := kT h31.fm
  by_cases hlt : i < r.txns.length
  · have hx : r.txns[i]? = some r.txns[i] := List.getElem?_eq_getElem hlt
    generalize r.txns[i] = m at hx
    have hmm := List.mem_of_getElem? hx
    obtain ⟨ad, hix, hcv, _⟩ := cells_ld pc2_len (by omega) hT31 hx
    have hc0 : w31.cell? ad = some (iv m.1) := by
      have := cellsV_cell hcv (i := 0) (x := iv m.1) rfl
      rw [Go.Al.add_zero] at this; exact this
    have hc1 : w31.cell? (ad.add 1) = some (iv m.2) := cellsV_cell hcv (i := 1) (x := iv m.2) rfl
    have d2 : decide ((i : Int) < (r.txns.length : Int)) = true := by rw [decide_eq_true_eq]; omega
    have e1 : IntKind.i64.wrap ((i : Int) + 1) = ((i + 1 : Nat) : Int) := by rw [wrap_id] <;> omega
    obtain ⟨hm1, hm2⟩ := ntx m hmm
    simp only [RS0, RS1, RS2, RS3, RS4, RS5, hR31.c15, hT31.lenV, d2, hix, hc0, hc1, true_and]
    have h22 := h31.keep (Fm.drew (fun _ => False) w31)
    refine h22.lit (bs47_2 _ _ _) rfl (by intro n hn; simp at hn; rcases hn with rfl | rfl <;> assumption) (by omega) ?_
    intro v23 w23 h23
    rw [numsB2] at h23
    simp only [RS0, RS1, RS2, RS3, RS4, RS5, e1]
    have e2 : B26 ++ (r.txns.take (i + 1)).flatMap prB = B26 ++ (r.txns.take i).flatMap prB ++ prB (m.1, m.2) := by rw [List.take_add_one, hx]; simp
    refine ⟨⟨i + 1, _, rfl, by omega, by rw [e2]; exact h23, ?_⟩, by simp only [nth_1]; omega⟩
    rw [e2]
    have := prB_len (p := (m.1, m.2)) hm1 hm2
    rw [List.length_append]
    omega
  have hie2 : i = r.txns.length := by omega
  subst hie2
  have d2 : decide (((r.txns.length : Nat) : Int) < (r.txns.length : Int)) = false := by simp
  rw [List.take_length] at h31 hl31
  simp only [RS0, RS1, RS2, RS3, RS4, RS5, hR31.c15, hT31.lenV, d2]
  refine RunS_ok (h31.o.conv B38) ⟨?_, Fmf hf1 h31.fm⟩
  rw [← hB26, ← hB17, ← hB16, ← hB7, ← hB6, ← hB5, ← hB4]
  rfl

end Go.Proofs.YthbngnlmgplijaaGreatDoor

namespace Go.Proofs.YthbngnlmgplijaaGreatDoor
open Go.Al Go.Proofs
set_option linter.unusedVariables false
set_option linter.unusedSimpArgs false
set_option linter.unusedSectionVars false
set_option maxRecDepth 100000

set_option maxHeartbeats 8000000 in
theorem rcheckR_spec {w : World} {cs : Array Value} {r : Rc} (h : RcAs w cs r) : Cl Tryz.prog 86 [.agg cs] w fun v w' => v = iv (rCheck r).2 ∧ Fm (fun _ => False) w w' := by
  obtain ⟨vs, vm, vi, vp, vt, hcs, _, hs, hm, hi, hp, ht⟩ := h.ex
  have hk8 := h.kin
  have hbulk := h.bulk
  refine c86 ?_; unfold T86
  refine New_any ?_
  intro x1 w1 hx1 hs1 hw1 hf1
  have hR1 : RB w1 x1 r vs vm vi vp vt := ⟨by rw [← hcs]; exact hw1⟩
  have h1 := h.keep hf1
  rw [hcs] at h1
  unfold rCheck
  simp only [RS0, RS1, RS2, RS3, RS4, RS5, hR1.c3]
  cases e1 : decide (r.kind < 1) with
  | true =>
    simp only [RS0, RS1, RS2, RS3, RS4, RS5, Bool.true_or, cond_true]
    exact ⟨(by trivial), hf1⟩
  | false =>
  simp only [RS0, RS1, RS2, RS3, RS4, RS5, hR1.c3, Bool.false_or]
  cases e2 : decide (13 < r.kind) with
  | true =>
    simp only [RS0, RS1, RS2, RS3, RS4, RS5, cond_true]
    exact ⟨(by trivial), hf1⟩
  | false =>
  simp only [RS0, RS1, RS2, RS3, RS4, RS5, cond_false, hR1.all]
  refine (ranges_spec h1).mono ?_
  rintro _ w2 ⟨rfl, hf2⟩
  have hF2 := Fmf hf1 hf2
  have hR2 := hR1.keep hf2 (fun e => e)
  unfold rangeR
  cases e3 : decide (r.lsn < 1) || (rNums r).any badN with
  | true =>
    simp only [RS0, RS1, RS2, RS3, RS4, RS5, cond_true]
    exact ⟨(by trivial), hF2⟩
  | false =>
  have m1 : decide ((512 : Int) < (r.data.length : Int)) = decide (512 < r.data.length) := by rw [decide_eq_decide]; omega
  have m2 : decide ((255 : Int) < (r.slots.length : Int)) = decide (255 < r.slots.length) := by rw [decide_eq_decide]; omega
  have m3 : decide ((255 : Int) < (r.more.length : Int)) = decide (255 < r.more.length) := by rw [decide_eq_decide]; omega
  have m4 : decide ((4 : Int) < (r.imgs.length : Int)) = decide (4 < r.imgs.length) := by rw [decide_eq_decide]; omega
  have m5 : decide ((8192 : Int) < (r.pages.length : Int)) = decide (8192 < r.pages.length) := by rw [decide_eq_decide]; omega
  have m6 : decide ((1024 : Int) < (r.txns.length : Int)) = decide (1024 < r.txns.length) := by rw [decide_eq_decide]; omega
  simp only [RS0, RS1, RS2, RS3, RS4, RS5, cond_false, hR2.c10, str_size, m1]
  have long : ∀ {w'}, longR r = true → Fm (fun _ => False) w w' → Value.int .i64 3 = iv (bif longR r then (([] : Bs), (3 : Int)) else rInner r).2 ∧ Fm (fun _ => False) w w' := fun hl hf => ⟨by rw [hl]; rfl, hf⟩
  cases q1 : decide (512 < r.data.length) with
  | true => simp only [RS0, RS1, RS2, RS3, RS4, RS5]; exact long (by simp [longR, q1]) hF2
  | false =>
  simp only [RS0, RS1, RS2, RS3, RS4, RS5, hR2.c11, hs.lenV, m2]
  cases q2 : decide (255 < r.slots.length) with
  | true => simp only [RS0, RS1, RS2, RS3, RS4, RS5]; exact long (by simp [longR, q2]) hF2
  | false =>
  simp only [RS0, RS1, RS2, RS3, RS4, RS5, hR2.c12, hm.lenV, m3]
  cases q3 : decide (255 < r.more.length) with
  | true => simp only [RS0, RS1, RS2, RS3, RS4, RS5]; exact long (by simp [longR, q3]) hF2
  | false =>
  simp only [RS0, RS1, RS2, RS3, RS4, RS5, hR2.c13, hi.lenV, m4]
  cases q4 : decide (4 < r.imgs.length) with
  | true => simp only [RS0, RS1, RS2, RS3, RS4, RS5]; exact long (by simp [longR, q4]) hF2
  | false =>
  simp only [RS0, RS1, RS2, RS3, RS4, RS5, hR2.c14, hp.lenV, m5]
  cases q5 : decide (8192 < r.pages.length) with
  | true => simp only [RS0, RS1, RS2, RS3, RS4, RS5]; exact long (by simp [longR, q5]) hF2
  | false =>
  simp only [RS0, RS1, RS2, RS3, RS4, RS5, hR2.c15, ht.lenV, m6]
  cases q6 : decide (1024 < r.txns.length) with
  | true => simp only [RS0, RS1, RS2, RS3, RS4, RS5]; exact long (by simp [longR, q6]) hF2
  | false =>
  have hl : longR r = false := by unfold longR; rw [q1, q2, q3, q4, q5, q6]; rfl
  rw [hl, cond_false]
  simp only [RS0, RS1, RS2, RS3, RS4, RS5]
  clear long
  refine ⟨fun vl w3 => ∃ i : Nat, vl = [iv i] ∧ i ≤ r.imgs.length ∧ imgErr r.imgs = imgErr (r.imgs.drop i) ∧ (∀ m ∈ r.imgs.take i, pErr m.2 = 0) ∧ Fm (fun _ => False) w2 w3, fun vl _ => (r.imgs.length - nth vl 0).toNat, ⟨0, rfl, by omega, rfl, by simp, Fm.refl _ _⟩, ?_⟩
  rintro _ w3 iv3 ⟨i, hvl, hile, hie, hno, hf3⟩
  cases hvl
  have hF3 := Fmf hF2 hf3
  have hR3 := hR2.keep hf3 (fun e => e)
  have hi3 := hi.keep hF3
  by_cases hlt : i < r.imgs.length
  · have hx : r.imgs[i]? = some r.imgs[i] := List.getElem?_eq_getElem hlt
    have hdr := List.drop_eq_getElem_cons hlt
    generalize r.imgs[i] = m at hx hdr
    rw [hdr] at hie
    obtain ⟨ad, u, hix, hcv, hone, hpg⟩ := hi3.ld hx
    have d2 : decide ((i : Int) < (r.imgs.length : Int)) = true := by rw [decide_eq_true_eq]; omega
    have e2 : IntKind.i64.wrap ((i : Int) + 1) = ((i + 1 : Nat) : Int) := by rw [wrap_id] <;> omega
    simp only [RS0, RS1, RS2, RS3, RS4, RS5, hR3.c13, hi3.lenV, d2, hix, im_sub hcv]
    refine (rencode_spec hpg).mono ?_
    rintro _ w4 ⟨rfl, hf4⟩
    have he : encR m.2 = .tuple #[stv (pEnc m.2).1, iv (pErr m.2)] := by unfold encR; rw [pEnc_err]
    rw [he]
    rw [show imgErr (m :: r.imgs.drop (i + 1)) = bif decide (pErr m.2 = 0) then imgErr (r.imgs.drop (i + 1)) else pErr m.2 from rfl] at hie
    simp only [RS0, RS1, RS2, RS3, RS4, RS5, bne_dec]
    cases hz : decide (pErr m.2 = 0) with
    | false =>
      rw [hz, cond_false] at hie
      have hz' : decide (imgErr r.imgs = 0) = false := by rw [hie]; exact hz
      simp only [RS0, RS1, RS2, RS3, RS4, RS5, Bool.not_false]
      refine ⟨?_, Fmf hF3 hf4⟩
      unfold rInner
      rw [hz', cond_false, hie]
    | true =>
      rw [hz, cond_true] at hie
      have h0 : pErr m.2 = 0 := by simpa using hz
      simp only [RS0, RS1, RS2, RS3, RS4, RS5, Bool.not_true, e2]
      refine ⟨⟨i + 1, rfl, by omega, hie, ?_, Fmf hf3 hf4⟩, by simp only [nth_0]; omega⟩
      intro y hy
      rw [List.take_add_one, hx] at hy
      rcases List.mem_append.1 hy with hy | hy
      · exact hno y hy
      · simp at hy; subst hy; exact h0
  have hie2 : i = r.imgs.length := by omega
  subst hie2
  rw [List.drop_length] at hie
  rw [List.take_length] at hno
  have d2 : decide (((r.imgs.length : Nat) : Int) < (r.imgs.length : Int)) = false := by simp
  have hie0 : decide (imgErr r.imgs = 0) = true := by rw [hie]; rfl
  simp only [RS0, RS1, RS2, RS3, RS4, RS5, hR3.c13, hi3.lenV, d2, hR3.all]
  refine (rbody_spec ((h1.keep hf2).keep hf3) hl hno).mono ?_
  rintro _ w4 ⟨rfl, hf4⟩
  have hF4 := Fmf hF3 hf4
  unfold rInner
  rw [hie0, cond_true]
  generalize rBody r = B
  have d9 : decide ((65535 : Int) < (B.length : Int)) = decide (65535 < B.length) := by rw [decide_eq_decide]; omega
  simp only [RS0, RS1, RS2, RS3, RS4, RS5, str_size, d9]
  cases hbig : decide (65535 < B.length) with
  | true =>
    simp only [RS0, RS1, RS2, RS3, RS4, RS5, cond_true]
    exact ⟨(by trivial), hF4⟩
  | false =>
    simp only [RS0, RS1, RS2, RS3, RS4, RS5, cond_false]
    exact ⟨(by trivial), hF4⟩

set_option maxHeartbeats 4000000 in
theorem rencR_spec {w : World} {cs : Array Value} {r : Rc} (h : RcAs w cs r) : Cl Tryz.prog 130 [.agg cs] w fun v w' => v = .tuple #[stv (rEnc r).1, iv (rEnc r).2] ∧ Fm (fun _ => False) w w' := by
  refine c130 ?_; unfold T130
  refine New_any ?_
  intro x1 w1 hx1 hs1 hw1 hf1
  simp only [RS0, RS1, RS2, RS3, RS4, RS5, cellsV_blk hw1 h.size]
  refine (rcheckR_spec (h.keep hf1)).mono ?_
  rintro _ w2 ⟨rfl, hf2⟩
  have hF2 := Fmf hf1 hf2
  have hw2 := hf2.heap hw1 (fun e => e)
  unfold rEnc
  simp only [RS0, RS1, RS2, RS3, RS4, RS5, bne_dec]
  cases hz : decide ((rCheck r).2 = 0) with
  | false =>
    simp only [RS0, RS1, RS2, RS3, RS4, RS5, Bool.not_false, cond_false]
    exact ⟨(by trivial), hF2⟩
  | true =>
  rw [decide_eq_true_eq] at hz
  obtain ⟨hg, _, hb, hbl⟩ := rCheck_ok hz h.lsns
  have hd := hg.data
  have hs := hg.slots
  have hm := hg.more
  have hi := hg.imgs
  have hp := hg.pages
  have ht := hg.txns
  have hl : longR r = false := by simp only [longR, Bool.or_eq_false_iff, decide_eq_false_iff_not]; omega
  simp only [RS0, RS1, RS2, RS3, RS4, RS5, Bool.not_true, cellsV_blk hw2 h.size]
  refine (rbody_spec (h.keep hF2) hl hg.img).mono ?_
  rintro _ w3 ⟨rfl, hf3⟩
  have hF3 := Fmf hF2 hf3
  rw [hb, cond_true]
  generalize rBody r = s at hbl
  simp only [RS0, RS1, RS2, RS3, RS4, RS5, str_size]
  refine (rbig_spec w3 (by omega) 4).mono ?_
  rintro _ w4 ⟨rfl, hf4⟩
  refine (rsum_spec w4 s (by omega)).mono ?_
  rintro _ w5 ⟨rfl, rfl⟩
  obtain ⟨q1, q2⟩ := crc_in s
  simp only [RS0, RS1, RS2, RS3, RS4, RS5, cvI_int, q2]
  refine (rbig_spec w5 q1 4).mono ?_
  rintro _ w6 ⟨rfl, hf6⟩
  have g1 : bigB (s.length : Nat) 4 = beN 4 s.length := bigB_of (n := s.length) (w := 4) (by omega) (by omega)
  have g2 : bigB (crc s : Nat) 4 = beN 4 (crc s) := bigB_of (n := crc s) (w := 4) (by omega) (by omega)
  rw [g1, g2, sadd (by rw [beN_len, beN_len]; omega)]
  try simp only [RS0, RS1, RS2, RS3, RS4, RS5]
  rw [sadd (by rw [List.length_append, beN_len, beN_len]; omega)]
  try simp only [RS0, RS1, RS2, RS3, RS4, RS5]
  exact ⟨(by trivial), Fmf hF3 (Fmf hf4 hf6)⟩


end Go.Proofs.YthbngnlmgplijaaGreatDoor

namespace Go.Proofs.YthbngnlmgplijaaGreatDoor
open Go.Al Go.Proofs
set_option linter.unusedVariables false
set_option linter.unusedSimpArgs false
set_option linter.unusedSectionVars false
set_option maxRecDepth 100000

theorem rn_in (most : Int) (st : St2) : 0 ≤ (rn most st).1 ∧ (rn most st).1 ≤ max most 0 ∧ (rn most st).2.1.length ≤ st.1.length := by
  unfold rn rdNum
  cases decide (st.2 = 0) with
  | true => exact rdN_in most 9 0 0 st.1
  | false => exact ⟨Int.le_refl _, by show (0 : Int) ≤ _; omega, Nat.le_refl _⟩
theorem rt_in {most : Int} (hm : 0 ≤ most) (st : St2) : ((rt most st).1.length : Int) ≤ most ∧ (rt most st).2.1.length ≤ st.1.length := by
  have h := rn_in most st
  unfold rt
  cases decide ((rn most st).2.2 = 0) with
  | true =>
    cases hd : decide (((rn most st).2.1.length : Int) < (rn most st).1) with
    | true => simp; omega
    | false => simp only [cond_true, cond_false, List.length_take, List.length_drop]; omega
  | false => simp only [cond_false, List.length_nil]; omega
theorem rlGo_in : ∀ (n : Nat) (st : St2), (rlGo n st).1.length ≤ n ∧ (∀ x ∈ (rlGo n st).1, okN x) ∧ (rlGo n st).2.1.length ≤ st.1.length
  | 0, st => ⟨Nat.le_refl _, by simp [rlGo], Nat.le_refl _⟩
  | n + 1, st => by
    have h := rn_in 4611686018427387904 st
    have ih := rlGo_in n (rn 4611686018427387904 st).2
    have h1 : okN (rn 4611686018427387904 st).1 := ⟨h.1, by have := h.2.1; omega⟩
    unfold rlGo
    cases decide ((rn 4611686018427387904 st).2.2 = 0) with
    | true =>
      simp only [cond_true, List.length_cons]
      refine ⟨by omega, fun x hx => ?_, by omega⟩
      rcases List.mem_cons.1 hx with rfl | hx
      · exact h1
      · exact ih.2.1 x hx
    | false =>
      simp only [cond_false]
      refine ⟨by simp, fun x hx => ?_, h.2.2⟩
      obtain rfl : x = _ := by simpa using hx
      exact h1
theorem rl_in {most : Int} (hm : 0 ≤ most) (st : St2) : ((rl most st).1.length : Int) ≤ most ∧ (∀ x ∈ (rl most st).1, okN x) ∧ (rl most st).2.1.length ≤ st.1.length := by
  have h := rn_in most st
  have h2 := rlGo_in (rn most st).1.toNat (rn most st).2
  unfold rl
  exact ⟨by omega, h2.2.1, by omega⟩
theorem riGo_in : ∀ (n : Nat) (st : St2) {r : List (Int × Pg) × St2}, riGo n st = some r → r.1.length = n ∧ (∀ m ∈ r.1, okN m.1 ∧ m.2.lsn ≤ 9223372036854775807) ∧ r.2.1.length ≤ st.1.length
  | 0, st, r, h => by cases h; exact ⟨rfl, by simp, Nat.le_refl _⟩
  | n + 1, st, r, h => by
    have h0 := rn_in 4611686018427387904 st
    have h1 := rt_in (most := 512) (by omega) (rn 4611686018427387904 st).2
    unfold riGo at h
    cases hc : decide ((pDec (padZ (rt 512 (rn 4611686018427387904 st).2).1)).2 = 0) && decide ((rt 512 (rn 4611686018427387904 st).2).2.2 = 0) with
    | false => rw [hc, cond_false] at h; cases h
    | true =>
      rw [hc, cond_true, Option.map_eq_some_iff] at h
      obtain ⟨q, hq, rfl⟩ := h
      have ih := riGo_in n _ hq
      rw [Bool.and_eq_true, decide_eq_true_eq] at hc
      refine ⟨by simp only [List.length_cons]; omega, fun m hm => ?_, by simp only; omega⟩
      rcases List.mem_cons.1 hm with rfl | hm
      · exact ⟨⟨h0.1, by have := h0.2.1; simp only; omega⟩, (enc_dec hc.1).2.2⟩
      · exact ih.2.1 m hm
theorem rpGo_in : ∀ (n : Nat) (st : St2) {r : List (Int × Int) × St2}, rpGo n st = some r → r.1.length = n ∧ (∀ m ∈ r.1, okN m.1 ∧ okN m.2) ∧ r.2.1.length ≤ st.1.length
  | 0, st, r, h => by cases h; exact ⟨rfl, by simp, Nat.le_refl _⟩
  | n + 1, st, r, h => by
    have h0 := rn_in 4611686018427387904 st
    have h1 := rn_in 4611686018427387904 (rn 4611686018427387904 st).2
    unfold rpGo at h
    cases hc : decide (st.2 = 0) with
    | false => rw [hc, cond_false] at h; cases h
    | true =>
      rw [hc, cond_true, Option.map_eq_some_iff] at h
      obtain ⟨q, hq, rfl⟩ := h
      have ih := rpGo_in n _ hq
      refine ⟨by simp only [List.length_cons]; omega, fun m hm => ?_, by simp only; omega⟩
      rcases List.mem_cons.1 hm with rfl | hm
      · exact ⟨⟨h0.1, by have := h0.2.1; simp only; omega⟩, ⟨h1.1, by have := h1.2.1; simp only; omega⟩⟩
      · exact ih.2.1 m hm
structure Bnd (r : Rc) : Prop where
  nums : ∀ n ∈ rNums r, okN n
  kind : 0 ≤ r.kind ∧ r.kind ≤ 13
  data : r.data.length ≤ 512
  slots : r.slots.length ≤ 255
  more : r.more.length ≤ 255
  imgs : r.imgs.length ≤ 4
  pages : r.pages.length ≤ 8192
  txns : r.txns.length ≤ 1024
  lsns : ∀ m ∈ r.imgs, m.2.lsn ≤ 9223372036854775807
theorem mem_prs2 {l : List (Int × Int)} {n : Int} (h : n ∈ prs l) : ∃ p ∈ l, n = p.1 ∨ n = p.2 := by
  unfold prs at h
  obtain ⟨p, hp, hn⟩ := List.mem_flatMap.1 h
  simp at hn
  exact ⟨p, hp, hn⟩
theorem tail_in {a : List Int} {st : St2} {x : Rc} (h : tailP a st = some x) (ha : ∀ i, i < 10 → i ≠ 3 → okN (gI a i)) (hk : 0 ≤ gI a 3 ∧ gI a 3 ≤ 13) : Bnd x := by
  unfold tailP at h
  have t1 := rt_in (most := 512) (by omega) st
  have t2 := rl_in (most := 255) (by omega) (rt 512 st).2
  have t3 := rl_in (most := 255) (by omega) (rl 255 (rt 512 st).2).2
  have t4 := rn_in 4 (rl 255 (rl 255 (rt 512 st).2).2).2
  simp only at h
  rw [Option.bind_eq_some_iff] at h
  obtain ⟨im, h1, h⟩ := h
  rw [Option.bind_eq_some_iff] at h
  obtain ⟨pg, h2, h⟩ := h
  rw [Option.bind_eq_some_iff] at h
  obtain ⟨tx, h3, h⟩ := h
  have t5 := rn_in 8192 im.2
  have t6 := rn_in 1024 pg.2
  have u1 := riGo_in _ _ h1
  have u2 := rpGo_in _ _ h2
  have u3 := rpGo_in _ _ h3
  cases he : decide (endE tx.2.1 tx.2.2 = 0) with
  | false => rw [he, cond_false] at h; cases h
  | true =>
    rw [he, cond_true] at h
    cases h
    refine ⟨fun n hn => ?_, hk, by simp only; omega, by simp only; omega, by simp only; omega, by simp only; omega, by simp only; omega, by simp only; omega, fun m hm => (u1.2.1 m hm).2⟩
    unfold rNums at hn
    simp only [List.mem_append] at hn
    rcases hn with ((((hn | hn) | hn) | hn) | hn) | hn
    · simp only [List.mem_cons, List.not_mem_nil, or_false] at hn
      rcases hn with rfl | rfl | rfl | rfl | rfl | rfl | rfl | rfl | rfl <;> exact ha _ (by omega) (by omega)
    · exact t2.2.1 n hn
    · exact t3.2.1 n hn
    · obtain ⟨m, hm, rfl⟩ := List.mem_map.1 hn
      exact (u1.2.1 m hm).1
    · obtain ⟨p, hp, e | e⟩ := mem_prs2 hn <;> rw [e]
      · exact (u2.2.1 p hp).1
      · exact (u2.2.1 p hp).2
    · obtain ⟨p, hp, e | e⟩ := mem_prs2 hn <;> rw [e]
      · exact (u3.2.1 p hp).1
      · exact (u3.2.1 p hp).2

/-! ### The reader's texts and lists -/
theorem rnum_spec {w : World} {rb : Nat} {st : St2} (h : RdAt w rb st.1 st.2) (hs : st.1.length ≤ 1000000) {most : Int} (hm : most ≤ 9223372036854775807) : Cl Tryz.prog 150 [pv rb, iv most] w fun v w' => v = iv (rn most st).1 ∧ RdAt w' rb (rn most st).2.1 (rn most st).2.2 ∧ Fm (· = rb) w w' :=
  bnum_spec h most (by omega) hm
set_option maxHeartbeats 1000000 in
theorem rtext_spec {w : World} {rb : Nat} {st : St2} (h : RdAt w rb st.1 st.2) (hs : st.1.length ≤ 1000000) {most : Int} (hm : most ≤ 9223372036854775807) : Cl Tryz.prog 151 [pv rb, iv most] w fun v w' => v = stv (rt most st).1 ∧ RdAt w' rb (rt most st).2.1 (rt most st).2.2 ∧ Fm (· = rb) w w' := by
  refine c151 ?_; unfold T151
  refine (rnum_spec h hs hm).mono ?_
  have hin := rn_in most st
  unfold rt
  rintro _ w1 ⟨rfl, h1, hf1⟩
  generalize (rn most st).1 = n at hin ⊢
  generalize (rn most st).2 = st1 at hin h1
  simp only [RS0, RS1, RS2, RS3, RS4, RS5, h1.c1, bne_dec]
  cases hz : decide (st1.2 = 0) with
  | false =>
    simp only [RS0, RS1, RS2, RS3, RS4, RS5, cond_false]
    exact ⟨(by trivial), h1, hf1⟩
  | true =>
    obtain ⟨j, rfl⟩ := Int.eq_ofNat_of_zero_le hin.1
    simp only [RS0, RS1, RS2, RS3, RS4, RS5, cond_true, h1.c0, str_size, Int.toNat_natCast]
    cases hd : decide ((st1.1.length : Int) < (j : Int)) with
    | true =>
      simp only [RS0, RS1, RS2, RS3, RS4, RS5, cond_true]
      refine (bfail_spec h1 10).mono ?_
      rintro _ w2 ⟨rfl, h2, hf2⟩
      try simp only [RS0, RS1, RS2, RS3, RS4, RS5]
      exact ⟨(by trivial), h2, hf1.trans hf2 (fun _ _ e => e) (fun _ _ e => e)⟩
    | false =>
      rw [decide_eq_false_iff_not] at hd
      have s1 := slS_hi (l := st1.1) (i := j) (by omega) .i64
      have s2 := slS_lo (l := st1.1) (i := j) (by omega) .i64
      simp only [RS0, RS1, RS2, RS3, RS4, RS5, cond_false, h1.c0, s1, s2]
      refine St_blk h1 (by show 0 < 2; decide) rfl ?_
      intro w2 hw2 hs2 hf2
      rw [decide_eq_true_eq] at hz
      refine ⟨(by trivial), ?_, hf1.trans hf2 (fun _ _ e => e) (fun _ _ e => e)⟩
      have : RdAt w2 rb (st1.1.drop j) st1.2 := hw2
      rw [hz] at this
      exact this
set_option maxHeartbeats 2000000 in
theorem rlist_spec {w : World} {rb : Nat} {st : St2} (h : RdAt w rb st.1 st.2) (hs : st.1.length ≤ 1000000) : Cl Tryz.prog 152 [pv rb, iv 255] w fun v w' => w'.ownsRow w.heap.size 3 1 v (rl 255 st).1.length ((rl 255 st).1.map iv) ∧ RdAt w' rb (rl 255 st).2.1 (rl 255 st).2.2 ∧ Fm (· = rb) w w' := by
  refine c152 ?_; unfold T152
  refine Jn_at (fun vs w' => ∃ v, vs = [v] ∧ w'.ownsRow w.heap.size 3 1 v (rl 255 st).1.length ((rl 255 st).1.map iv) ∧ RdAt w' rb (rl 255 st).2.1 (rl 255 st).2.2 ∧ Fm (· = rb) w w') ?_ ?_
  · rintro _ w' ⟨v, rfl, g⟩ _
    exact ⟨v, rfl, g⟩
  · intro jj hjj
    refine (rnum_spec h hs (by omega)).mono ?_
    have hin := rn_in 255 st
    unfold rl at hjj
    rintro _ w1 ⟨rfl, h1, hf1⟩
    generalize (rn 255 st).1 = n at hin hjj ⊢
    generalize (rn 255 st).2 = st1 at hin h1 hjj
    obtain ⟨N, rfl⟩ := Int.eq_ofNat_of_zero_le hin.1
    rw [Int.toNat_natCast] at hjj
    have hz1 := hf1.size
    refine ⟨fun vs w' => ∃ (i : Nat) (v : Value) (L : List Int) (st2 : St2), vs = [v, iv i] ∧ i ≤ N ∧ L.length = i ∧ w'.ownsRow w.heap.size 3 1 v L.length (L.map iv) ∧ RdAt w' rb st2.1 st2.2 ∧ st2.1.length ≤ 1000000 ∧ rlGo N st1 = (L ++ (rlGo (N - i) st2).1, (rlGo (N - i) st2).2) ∧ Fm (· = rb) w w', fun vs _ => (N - nth vs 1).toNat, ⟨0, _, [], st1, rfl, by omega, rfl, World.ownsRow_nil _ _ _ _, h1, by omega, rfl, hf1⟩, ?_⟩
    rintro _ w2 v iv2 ⟨i, v0, L, st2, hvs, hi, hL, ho2, h2, hl2, heq, hf2⟩
    cases hvs
    have hz2 := hf2.size
    by_cases hlt : i < N
    · have d1 : decide ((i : Int) < (N : Int)) = true := by rw [decide_eq_true_eq]; omega
      have e1 : IntKind.i64.wrap ((i : Int) + 1) = ((i + 1 : Nat) : Int) := by rw [wrap_id] <;> omega
      obtain ⟨m, hm⟩ : ∃ m, N - i = m + 1 := ⟨N - i - 1, by omega⟩
      have hm1 : N - (i + 1) = m := by omega
      simp only [RS0, RS1, RS2, RS3, RS4, RS5, d1]
      refine (rnum_spec h2 hl2 (by omega)).mono ?_
      rw [hm, rlGo] at heq
      have hin2 := rn_in 4611686018427387904 st2
      rintro _ w3 ⟨rfl, h3, hf3⟩
      generalize (rn 4611686018427387904 st2).1 = x at heq hin2 ⊢
      generalize (rn 4611686018427387904 st2).2 = st3 at heq hin2 h3
      have hF3 : Fm (· = rb) w w3 := hf2.trans hf3 (fun _ _ e => e) (fun _ _ e => e)
      have hz3 := hF3.size
      have hrd : RdAt w2 rb st2.1 st2.2 := h2
      have hrbne : ∀ k, v.ownBlock = some k → k ≠ rb := by
        intro k hk e
        rcases ho2.2 with ⟨rfl, _⟩ | ⟨g, cap, cur, rfl, _, hg, _⟩
        · cases hk
        · have e1 : g = k := by simpa [Value.ownBlock] using hk
          rw [e1, e] at hg
          have hq : w2.heap[rb]? = _ := hrd
          rw [hq] at hg; cases hg
      have ho3 := own_keep ho2 hf3 (fun k _ _ hk e => hrbne k hk e)
      refine row_lit ho3 (bs47_1 _ _) rfl (by omega) hz3 ?_
      intro v4 w4 ho4 hf4
      have hrl := h.lt
      have h4 := h3.keep hf4 (fun e => by omega)
      have hF4 : Fm (· = rb) w w4 := hF3.trans hf4 (fun _ _ e => e) (fun y hy e => by omega)
      refine (berr_spec h4).mono ?_
      rintro _ w5 ⟨rfl, rfl⟩
      simp only [RS0, RS1, RS2, RS3, RS4, RS5, bne_dec]
      cases hz : decide (st3.2 = 0) with
      | false =>
        rw [hz, cond_false] at heq
        simp only [RS0, RS1, RS2, RS3, RS4, RS5]
        refine hjj _ _ ⟨v4, rfl, ?_⟩
        rw [heq]
        exact ⟨ho4, h4, hF4⟩
      | true =>
        rw [hz, cond_true] at heq
        simp only [RS0, RS1, RS2, RS3, RS4, RS5, e1]
        refine ⟨⟨i + 1, v4, L ++ [x], st3, rfl, by omega, by rw [List.length_append, hL]; rfl, ho4, h4, by omega, ?_, hF4⟩, by simp only [nth_1]; omega⟩
        rw [heq, hm1]
        simp
    · have hie : i = N := by omega
      subst hie
      have d1 : decide ((i : Int) < (i : Int)) = false := by simp
      rw [Nat.sub_self, rlGo] at heq
      simp only [List.append_nil] at heq
      simp only [RS0, RS1, RS2, RS3, RS4, RS5, d1]
      refine hjj _ _ ⟨v, rfl, ?_⟩
      rw [heq]
      exact ⟨ho2, h2, hf2⟩

theorem app_fine {w : World} {base n bytes sz : Nat} {t e : TypeId} {v : Value} {xs : List Value} (E : ElemT Tryz.prog t e sz bytes) (hsz : 0 < sz) (h : w.ownsRow base e sz v n xs) {b : Nat} {cs : List Value} (hb : w.heap[b]? = some (.cells cs.toArray e)) (hcs : cs.length = sz) (h1 : ∀ u ∈ cs, u.oneCell' = true) (hn : (n + 1) * bytes ≤ 140737488355328) (h63 : n + 1 ≤ maxLen) (hbs : base ≤ w.heap.size) :
    ∃ v' w', (Builtin.append_ #[t, t] t #[v, .slice (some ⟨b, 0, none⟩) 1 1]).run Tryz.prog w = .ok v' w' ∧ w'.ownsRow base e sz v' (n + 1) (xs ++ cs) ∧ (∀ y, v'.ownBlock = some y → v.ownBlock = some y ∨ w.heap.size ≤ y) ∧ Fm (fun y => v.ownBlock = some y) w w' := by
  obtain ⟨v', w', hr, ho, hc⟩ := append_fine E hsz h t ⟨b, 0, none⟩ 1 1 (by omega) cs (by omega) (fun j u hj => by rw [add_none, Nat.zero_add, cell_at hb]; simpa using hj) h1 h63 hn hbs
  refine ⟨v', w', hr, ho, ?_⟩
  rcases hc with ⟨g, e1, e2, e3⟩ | ⟨g, e1, e2, e3⟩
  · exact ⟨fun y hy => .inl (by rw [e1, ← e2]; exact hy), e3.mono (fun y _ e => by rw [e]; exact e1)⟩
  · exact ⟨fun y hy => .inr (by rw [e1] at hy; cases hy; exact e2), e3.mono (fun _ _ e => e.elim)⟩


end Go.Proofs.YthbngnlmgplijaaGreatDoor

namespace Go.Proofs.YthbngnlmgplijaaGreatDoor
open Go.Al Go.Proofs
set_option linter.unusedVariables false
set_option linter.unusedSimpArgs false
set_option linter.unusedSectionVars false
set_option maxRecDepth 100000

abbrev nl : Value := .slice none 0 0
def rc0 : Rc := ⟨0, 0, 0, 0, 0, 0, 0, 0, 0, 0, [], [], [], [], [], []⟩
theorem rcs_one {r : Rc} {vs vm vi vp vt : Value} (h1 : vs.oneCell' = true) (h2 : vm.oneCell' = true) (h3 : vi.oneCell' = true) (h4 : vp.oneCell' = true) (h5 : vt.oneCell' = true) : ∀ u ∈ (rcs r vs vm vi vp vt).toList, u.oneCell' = true := by
  intro u hu
  simp [rcs] at hu
  rcases hu with rfl | rfl | rfl | rfl | rfl | rfl | rfl | rfl | rfl | rfl | rfl | rfl | rfl | rfl | rfl | rfl <;> first | rfl | assumption
theorem bld52z (w : World) : (Instr.build 28 #[]).run Tryz.prog w = .ok (.agg (rcs rc0 nl nl nl nl nl)) w := by kernel_rfl
theorem agg52 : aggB Tryz.prog 28 = some true := by kernel_rfl
theorem size52 : sizeB Tryz.prog 28 = some 16 := by kernel_rfl
theorem Er48 : ElemT Tryz.prog 24 118 7 80 := elemT_of Tryz.underlying24 (by kernel_rfl)
theorem Er49 : ElemT Tryz.prog 25 120 2 16 := elemT_of Tryz.underlying25 (by kernel_rfl)
theorem Er50 : ElemT Tryz.prog 26 122 2 16 := elemT_of Tryz.underlying26 (by kernel_rfl)
theorem bld90 (m : Int) (p : Pg) (a : Option Addr) (n c : Nat) (w : World) : (Instr.build 118 #[(0, iv m), (1, .agg (pcs p (.slice a n c)))]).run Tryz.prog w = .ok (.agg (imC (m, p, .slice a n c)).toArray) w := by kernel_rfl
theorem bs48 (m : Int) (p : Pg) (a : Option Addr) (n c : Nat) (w : World) : (Instr.buildSlice 24 1 #[(0, .agg (imC (m, p, .slice a n c)).toArray)]).run Tryz.prog w = .ok (.slice (some ⟨w.heap.size, 0, none⟩) 1 1) (w.alloc (.cells (imC (m, p, .slice a n c)).toArray 118)) := by kernel_rfl
theorem bld96 (a b : Int) (w : World) : (Instr.build 120 #[(0, iv a), (1, iv b)]).run Tryz.prog w = .ok (.agg (pc2 (a, b)).toArray) w := by kernel_rfl
theorem bld99 (a b : Int) (w : World) : (Instr.build 122 #[(0, iv a), (1, iv b)]).run Tryz.prog w = .ok (.agg (pc2 (a, b)).toArray) w := by kernel_rfl
theorem bs49 (a b : Int) (w : World) : (Instr.buildSlice 25 1 #[(0, .agg (pc2 (a, b)).toArray)]).run Tryz.prog w = .ok (.slice (some ⟨w.heap.size, 0, none⟩) 1 1) (w.alloc (.cells (pc2 (a, b)).toArray 120)) := by kernel_rfl
theorem bs50 (a b : Int) (w : World) : (Instr.buildSlice 26 1 #[(0, .agg (pc2 (a, b)).toArray)]).run Tryz.prog w = .ok (.slice (some ⟨w.heap.size, 0, none⟩) 1 1) (w.alloc (.cells (pc2 (a, b)).toArray 122)) := by kernel_rfl

structure HS (w0 w : World) (x2 rb r4 x5 : Nat) (st : St2) (r : Rc) (vs vm vi vp vt : Value) : Prop where
  res : w.heap[x2]? = some (.cells (rcs rc0 nl nl nl nl nl) 28)
  rd : RdAt w rb st.1 st.2
  rp : w.heap[r4]? = some (.cells #[pv rb] 181)
  x : RB w x5 r vs vm vi vp vt
  fm : Fm (fun _ => False) w0 w
  o1 : w0.heap.size ≤ x2
  o2 : x2 < rb
  o3 : rb < r4
  o4 : r4 < x5
  len : st.1.length ≤ 1000000
section
variable {w0 w w' : World} {x2 rb r4 x5 : Nat} {st : St2} {r : Rc} {vs vm vi vp vt : Value}
theorem HS.keepG {S : Nat → Prop} (h : HS w0 w x2 rb r4 x5 st r vs vm vi vp vt) (hf : Fm S w w') (hS : ∀ y, S y → x5 < y) : HS w0 w' x2 rb r4 x5 st r vs vm vi vp vt := by
  have := h.o1
  have := h.o2
  have := h.o3
  have := h.o4
  have hn : ∀ y, y ≤ x5 → ¬ S y := fun y hy e => by have := hS y e; omega
  exact ⟨hf.heap h.res (hn _ (by omega)), h.rd.keep hf (hn _ (by omega)), hf.heap h.rp (hn _ (by omega)), h.x.keep hf (hn _ (by omega)), Fm.own h.fm hf (fun y hy => by have := hS y hy; omega), h.o1, h.o2, h.o3, h.o4, h.len⟩
theorem HS.rdr (h : HS w0 w x2 rb r4 x5 st r vs vm vi vp vt) {st' : St2} (hr : RdAt w' rb st'.1 st'.2) (hf : Fm (· = rb) w w') (hl : st'.1.length ≤ st.1.length) : HS w0 w' x2 rb r4 x5 st' r vs vm vi vp vt := by
  have := h.o1
  have := h.o2
  have := h.o3
  have := h.o4
  have := h.len
  exact ⟨hf.heap h.res (by omega), hr, hf.heap h.rp (by omega), h.x.keep hf (by omega), Fm.own h.fm hf (by rintro y rfl; omega), h.o1, h.o2, h.o3, h.o4, by omega⟩
theorem HS.cp (h : HS w0 w x2 rb r4 x5 st r vs vm vi vp vt) : w.cell? ⟨r4, 0, none⟩ = some (pv rb) := by rw [cell_at h.rp]; rfl
theorem HS.numk (h : HS w0 w x2 rb r4 x5 st r vs vm vi vp vt) {most : Int} (hm : most ≤ 9223372036854775807) {k : KV} (hk : ∀ w', HS w0 w' x2 rb r4 x5 (rn most st).2 r vs vm vi vp vt → Fm (· = rb) w w' → k (iv (rn most st).1) w') : Cl Tryz.prog 150 [pv rb, iv most] w k := by
  refine (rnum_spec h.rd h.len hm).mono ?_
  rintro _ w' ⟨rfl, h1, hf⟩
  exact hk w' (h.rdr h1 hf (rn_in most st).2.2) hf
theorem HS.num (h : HS w0 w x2 rb r4 x5 st r vs vm vi vp vt) {k : KV} (hk : ∀ w', HS w0 w' x2 rb r4 x5 (rn 4611686018427387904 st).2 r vs vm vi vp vt → Fm (· = rb) w w' → k (iv (rn 4611686018427387904 st).1) w') : ClV Tryz.prog (.func (.func 149) #[] #[pv r4]) [] w k := by
  refine ClV_func (by kernel_rfl) ?_
  show Cl Tryz.prog 149 [pv r4] w k
  refine c149 ?_; unfold T149
  simp only [RS0, RS1, RS2, RS3, RS4, RS5, h.cp]
  refine h.numk (by omega) ?_
  intro w' h' hf
  exact hk w' h' hf
theorem HS.text (h : HS w0 w x2 rb r4 x5 st r vs vm vi vp vt) {k : KV} (hk : ∀ w', HS w0 w' x2 rb r4 x5 (rt 512 st).2 r vs vm vi vp vt → Fm (· = rb) w w' → k (stv (rt 512 st).1) w') : Cl Tryz.prog 151 [pv rb, iv 512] w k := by
  refine (rtext_spec h.rd h.len (by omega)).mono ?_
  rintro _ w' ⟨rfl, h1, hf⟩
  exact hk w' (h.rdr h1 hf (rt_in (by omega) st).2) hf
theorem HS.list (h : HS w0 w x2 rb r4 x5 st r vs vm vi vp vt) {k : KV} (hk : ∀ v w', HS w0 w' x2 rb r4 x5 (rl 255 st).2 r vs vm vi vp vt → w'.ownsRow w.heap.size 3 1 v (rl 255 st).1.length ((rl 255 st).1.map iv) → Fm (· = rb) w w' → k v w') : Cl Tryz.prog 152 [pv rb, iv 255] w k := by
  refine (rlist_spec h.rd h.len).mono ?_
  rintro v w' ⟨ho, h1, hf⟩
  exact hk v w' (h.rdr h1 hf (rl_in (by omega) st).2.2) ho hf
theorem HS.put (h : HS w0 w x2 rb r4 x5 st r vs vm vi vp vt) {j : Nat} {u : Value} {r' : Rc} {vs' vm' vi' vp' vt' : Value} (hj : j < 16) (hu : u.oneCell' = true) (e : (rcs r vs vm vi vp vt).setIfInBounds j u = rcs r' vs' vm' vi' vp' vt') {k : KV}
    (hk : ∀ w', HS w0 w' x2 rb r4 x5 st r' vs' vm' vi' vp' vt' → Fm (· = x5) w w' → k undef w') : St 1 w (.pointer (some ⟨x5, j, none⟩)) u k := by
  have := h.o1
  have := h.o2
  have := h.o3
  have := h.o4
  refine St_blk h.x.h (by show j < 16; exact hj) hu ?_
  intro w' hw' hs' hf'
  rw [e] at hw'
  exact hk w' ⟨hf'.heap h.res (by omega), h.rd.keep hf' (by omega), hf'.heap h.rp (by omega), ⟨hw'⟩, Fm.own h.fm hf' (by rintro y rfl; omega), h.o1, h.o2, h.o3, h.o4, h.len⟩ hf'
theorem HS.ret (h : HS w0 w x2 rb r4 x5 st r vs vm vi vp vt) (hone : ∀ u ∈ (rcs r vs vm vi vp vt).toList, u.oneCell' = true) (b : Bool) {k : KV} (hk : ∀ w', Fm (· = x2) w w' → k (.tuple #[.agg (rcs r vs vm vi vp vt), .bool b]) w') :
    St 16 w (.pointer (some ⟨x2, 0, none⟩)) (.agg (rcs r vs vm vi vp vt)) fun u_168 w_169 =>
        RetO (resL Tryz.prog (fun j => bif Nat.beq j 2 then .pointer (some ⟨x2, 0, none⟩) else bif Nat.beq j 3 then (Value.bool b) else undef) w_169 [(ResultVar.cell 2 28), (ResultVar.tmp 3)]) w_169 k := by
  refine St_all h.res rfl rfl hone ?_
  intro w' hw' hs' hf'
  have hj' : resV Tryz.prog (fun j => bif Nat.beq j 2 then .pointer (some ⟨x2, 0, none⟩) else bif Nat.beq j 3 then (Value.bool b) else undef) w' (.tmp 3) = some (.bool b) := rfl
  simp only [resL, resV_blk (f := (fun j => bif Nat.beq j 2 then .pointer (some ⟨x2, 0, none⟩) else bif Nat.beq j 3 then (Value.bool b) else undef)) (a := 2) rfl agg52 size52 hw' rfl, hj', RetO, RetV]
  exact hk w' hf'
end
structure Rows (w : World) (b : Nat) (r : Rc) (vs vm vi vp vt : Value) : Prop where
  hs : w.ownsRow b 3 1 vs r.slots.length (r.slots.map iv)
  hm : w.ownsRow b 3 1 vm r.more.length (r.more.map iv)
  hi : ∃ X : List (Int × Pg × Value), X.map (fun x => (x.1, x.2.1)) = r.imgs ∧ w.ownsRow b 118 7 vi X.length (X.flatMap imC) ∧ ∀ x ∈ X, x.2.2.oneCell' = true ∧ w.ownsRow b 9 1 x.2.2 x.2.1.items.length (x.2.1.items.map stv) ∧ PgAs w (pcs x.2.1 x.2.2) x.2.1
  hp : w.ownsRow b 120 2 vp r.pages.length (r.pages.flatMap pc2)
  ht : w.ownsRow b 122 2 vt r.txns.length (r.txns.flatMap pc2)
section
variable {w w' : World} {b : Nat} {r : Rc} {vs vm vi vp vt : Value}
theorem pgas_own {p : Pg} {v : Value} (ho : w'.ownsRow b 9 1 v p.items.length (p.items.map stv)) (h : PgAs w (pcs p v) p) : PgAs w' (pcs p v) p := ⟨⟨v, rfl, own_one ho, CellsAt.of_own ho⟩, h.small, h.ins⟩
theorem Rows.keep {S : Nat → Prop} (h : Rows w b r vs vm vi vp vt) (hf : Fm S w w') (hS : ∀ y, S y → y < b) : Rows w' b r vs vm vi vp vt := by
  have hn : ∀ k, b ≤ k → ¬ S k := fun k hk e => by have := hS k e; omega
  obtain ⟨X, h1, h2, h3⟩ := h.hi
  exact ⟨own_keep h.hs hf (fun k hk _ _ => hn k hk), own_keep h.hm hf (fun k hk _ _ => hn k hk), ⟨X, h1, own_keep h2 hf (fun k hk _ _ => hn k hk), fun x hx => by
    obtain ⟨q1, q2, q3⟩ := h3 x hx
    have q4 := own_keep q2 hf (fun k hk _ _ => hn k hk)
    exact ⟨q1, q4, pgas_own q4 q3⟩⟩, own_keep h.hp hf (fun k hk _ _ => hn k hk), own_keep h.ht hf (fun k hk _ _ => hn k hk)⟩
theorem Rows.one (h : Rows w b r vs vm vi vp vt) : ∀ u ∈ (rcs r vs vm vi vp vt).toList, u.oneCell' = true := by
  obtain ⟨X, h1, h2, h3⟩ := h.hi
  exact rcs_one (own_one h.hs) (own_one h.hm) (own_one h2) (own_one h.hp) (own_one h.ht)
theorem Rows.asR (h : Rows w b r vs vm vi vp vt) (hb : Bnd r) : RcAs w (rcs r vs vm vi vp vt) r := by
  obtain ⟨X, h1, h2, h3⟩ := h.hi
  refine ⟨⟨vs, vm, vi, vp, vt, rfl, ⟨own_one h.hs, own_one h.hm, own_one h2, own_one h.hp, own_one h.ht⟩, CellsAt.of_own h.hs, CellsAt.of_own h.hm, ⟨X, h1, CellsAt.of_own h2, fun x hx => ⟨(h3 x hx).1, (h3 x hx).2.2⟩⟩, CellsAt.of_own h.hp, CellsAt.of_own h.ht⟩, fun n hn => ?_, ?_, ?_, ?_, hb.lsns⟩
  · have := hb.nums n hn
    unfold okN at this
    unfold In; omega
  · have := hb.kind; omega
  · have := hb.data; omega
  · have := hb.slots
    have := hb.more
    have := hb.imgs
    have := hb.pages
    have := hb.txns
    omega
end
def tailI (a : List Int) (t : Bs) (sl mo : List Int) (im : List (Int × Pg)) (pg tx : List (Int × Int)) (st : St2) : Option Rc := bif decide (endE st.1 st.2 = 0) then some ⟨gI a 0, gI a 1, gI a 2, gI a 3, gI a 4, gI a 5, gI a 6, gI a 7, gI a 8, gI a 9, t, sl, mo, im, pg, tx⟩ else none
def tailH (a : List Int) (t : Bs) (sl mo : List Int) (im : List (Int × Pg)) (pg : List (Int × Int) × St2) : Option Rc := (rpGo (rn 1024 pg.2).1.toNat (rn 1024 pg.2).2).bind fun tx => tailI a t sl mo im pg.1 tx.1 tx.2
def tailG (a : List Int) (t : Bs) (sl mo : List Int) (im : List (Int × Pg) × St2) : Option Rc := (rpGo (rn 8192 im.2).1.toNat (rn 8192 im.2).2).bind (tailH a t sl mo im.1)
theorem tail_eq (a : List Int) (st : St2) : tailP a st = (riGo (rn 4 (rl 255 (rl 255 (rt 512 st).2).2).2).1.toNat (rn 4 (rl 255 (rl 255 (rt 512 st).2).2).2).2).bind (tailG a (rt 512 st).1 (rl 255 (rt 512 st).2).1 (rl 255 (rl 255 (rt 512 st).2).2).1) := rfl
theorem outer_in {s : Bs} {x : Rc} (h : outerP s = some x) : Bnd x := by
  unfold outerP at h
  refine tail_in h (fun i hi h3 => ?_) ?_
  · simp only [ten]
    have q : ∀ st, okN (rn 4611686018427387904 st).1 := fun st => ⟨(rn_in _ st).1, by have := (rn_in 4611686018427387904 st).2.1; omega⟩
    have : i = 0 ∨ i = 1 ∨ i = 2 ∨ i = 4 ∨ i = 5 ∨ i = 6 ∨ i = 7 ∨ i = 8 ∨ i = 9 := by omega
    rcases this with rfl | rfl | rfl | rfl | rfl | rfl | rfl | rfl | rfl <;> exact q _
  · simp only [ten]
    have q : ∀ st, 0 ≤ (rn 13 st).1 ∧ (rn 13 st).1 ≤ 13 := fun st => ⟨(rn_in _ st).1, by have := (rn_in 13 st).2.1; omega⟩
    exact q _

set_option maxHeartbeats 32000000 in
theorem outer_spec (w : World) (s : Bs) (hs : s.length ≤ 1000000) : Cl Tryz.prog 81 [stv s] w fun v w' => ∃ cs ok, v = .tuple #[.agg cs, .bool ok] ∧ cs.size = 16 ∧ (∀ u ∈ cs.toList, u.oneCell' = true) ∧ (ok = false → outerP s = none) ∧ (ok = true → ∃ x vs vm vi vp vt, outerP s = some x ∧ cs = rcs x vs vm vi vp vt ∧ Rows w' w.heap.size x vs vm vi vp vt) ∧ Fm (fun _ => False) w w' := by
  refine c81 ?_; unfold T81
  refine New_any ?_
  intro x2 w1 hx2 hs1 hw1 hf1
  refine (bread_spec w1 s).mono ?_
  rintro _ w2 ⟨rb, rfl, hrb, hrd, hf2⟩
  have hz2 := hf2.size
  have hrl := hrd.lt
  refine New_any ?_
  intro r4 w3 hr4 hs3 hw3 hf3
  refine St_blk hw3 (by show 0 < 1; decide) rfl ?_
  intro w4 hw4 hs4 hf4
  refine New_any ?_
  intro x5 w5 hx5 hs5 hw5 hf5
  have hf35 : Fm (fun _ => False) w2 w5 := Fmf (Fm.own hf3 hf4 (by rintro y rfl; omega)) hf5
  have h0 : HS w w5 x2 rb r4 x5 (s, 0) rc0 nl nl nl nl nl := ⟨(Fmf hf2 hf35).heap hw1 (fun e => e), hrd.keep hf35 (fun e => e), hf5.heap hw4 (fun e => e), ⟨hw5⟩, Fmf hf1 (Fmf hf2 hf35), by omega, by omega, by omega, by omega, hs⟩
  have hr0 : Rows w5 (x5 + 1) rc0 nl nl nl nl nl := ⟨World.ownsRow_nil _ _ _ _, World.ownsRow_nil _ _ _ _, ⟨[], rfl, World.ownsRow_nil _ _ _ _, by simp⟩, World.ownsRow_nil _ _ _ _, World.ownsRow_nil _ _ _ _⟩
  have hx5l := h0.x.lt
  clear hw1 hrd hw3 hw4 hw5 hr0
  refine h0.num ?_
  intro w6 h6a hq6
  have i0 := rn_in 4611686018427387904 (s, 0)
  generalize e0 : rn 4611686018427387904 (s, 0) = a0 at h6a i0 ⊢
  refine h6a.num ?_
  intro w7 h7a hq7
  have i1 := rn_in 4611686018427387904 a0.2
  generalize e1 : rn 4611686018427387904 a0.2 = a1 at h7a i1 ⊢
  refine h7a.num ?_
  intro w8 h8a hq8
  have i2 := rn_in 4611686018427387904 a1.2
  generalize e2 : rn 4611686018427387904 a1.2 = a2 at h8a i2 ⊢
  try simp only [RS0, RS1, RS2, RS3, RS4, RS5]
  refine h8a.put (j := 0) (r' := ⟨a0.1, 0, 0, 0, 0, 0, 0, 0, 0, 0, [], [], [], [], [], []⟩) (vs' := nl) (vm' := nl) (vi' := nl) (vp' := nl) (vt' := nl) (by omega) rfl rfl ?_
  intro w9 h9a hq9
  try simp only [RS0, RS1, RS2, RS3, RS4, RS5]
  refine h9a.put (j := 1) (r' := ⟨a0.1, a1.1, 0, 0, 0, 0, 0, 0, 0, 0, [], [], [], [], [], []⟩) (vs' := nl) (vm' := nl) (vi' := nl) (vp' := nl) (vt' := nl) (by omega) rfl rfl ?_
  intro w10 h10a hq10
  try simp only [RS0, RS1, RS2, RS3, RS4, RS5]
  refine h10a.put (j := 2) (r' := ⟨a0.1, a1.1, a2.1, 0, 0, 0, 0, 0, 0, 0, [], [], [], [], [], []⟩) (vs' := nl) (vm' := nl) (vi' := nl) (vp' := nl) (vt' := nl) (by omega) rfl rfl ?_
  intro w11 h11a hq11
  simp only [RS0, RS1, RS2, RS3, RS4, RS5, h11a.cp]
  refine h11a.numk (by omega) ?_
  intro w12 h12a hq12
  have i3 := rn_in 13 a2.2
  generalize e3 : rn 13 a2.2 = a3 at h12a i3 ⊢
  have ek : cvI .u8 (iv a3.1) = some (.int .u8 a3.1) := by
    show some (Value.int .u8 (IntKind.u8.wrap a3.1)) = _
    obtain ⟨q, hq⟩ := Int.eq_ofNat_of_zero_le i3.1
    have := i3.2.1
    rw [hq, u8_wrap_nat, Nat.mod_eq_of_lt (by omega)]
  simp only [RS0, RS1, RS2, RS3, RS4, RS5, ek]
  try simp only [RS0, RS1, RS2, RS3, RS4, RS5]
  refine h12a.put (j := 3) (r' := ⟨a0.1, a1.1, a2.1, a3.1, 0, 0, 0, 0, 0, 0, [], [], [], [], [], []⟩) (vs' := nl) (vm' := nl) (vi' := nl) (vp' := nl) (vt' := nl) (by omega) rfl rfl ?_
  intro w13 h13a hq13
  refine h13a.num ?_
  intro w14 h14a hq14
  have i4 := rn_in 4611686018427387904 a3.2
  generalize e4 : rn 4611686018427387904 a3.2 = a4 at h14a i4 ⊢
  refine h14a.num ?_
  intro w15 h15a hq15
  have i5 := rn_in 4611686018427387904 a4.2
  generalize e5 : rn 4611686018427387904 a4.2 = a5 at h15a i5 ⊢
  refine h15a.num ?_
  intro w16 h16a hq16
  have i6 := rn_in 4611686018427387904 a5.2
  generalize e6 : rn 4611686018427387904 a5.2 = a6 at h16a i6 ⊢
  refine h16a.num ?_
  intro w17 h17a hq17
  have i7 := rn_in 4611686018427387904 a6.2
  generalize e7 : rn 4611686018427387904 a6.2 = a7 at h17a i7 ⊢
  refine h17a.num ?_
  intro w18 h18a hq18
  have i8 := rn_in 4611686018427387904 a7.2
  generalize e8 : rn 4611686018427387904 a7.2 = a8 at h18a i8 ⊢
  refine h18a.num ?_
  intro w19 h19a hq19
  have i9 := rn_in 4611686018427387904 a8.2
  generalize e9 : rn 4611686018427387904 a8.2 = a9 at h19a i9 ⊢
  try simp only [RS0, RS1, RS2, RS3, RS4, RS5]
  refine h19a.put (j := 4) (r' := ⟨a0.1, a1.1, a2.1, a3.1, a4.1, 0, 0, 0, 0, 0, [], [], [], [], [], []⟩) (vs' := nl) (vm' := nl) (vi' := nl) (vp' := nl) (vt' := nl) (by omega) rfl rfl ?_
  intro w20 h20a hq20
  try simp only [RS0, RS1, RS2, RS3, RS4, RS5]
  refine h20a.put (j := 5) (r' := ⟨a0.1, a1.1, a2.1, a3.1, a4.1, a5.1, 0, 0, 0, 0, [], [], [], [], [], []⟩) (vs' := nl) (vm' := nl) (vi' := nl) (vp' := nl) (vt' := nl) (by omega) rfl rfl ?_
  intro w21 h21a hq21
  try simp only [RS0, RS1, RS2, RS3, RS4, RS5]
  refine h21a.put (j := 6) (r' := ⟨a0.1, a1.1, a2.1, a3.1, a4.1, a5.1, a6.1, 0, 0, 0, [], [], [], [], [], []⟩) (vs' := nl) (vm' := nl) (vi' := nl) (vp' := nl) (vt' := nl) (by omega) rfl rfl ?_
  intro w22 h22a hq22
  try simp only [RS0, RS1, RS2, RS3, RS4, RS5]
  refine h22a.put (j := 7) (r' := ⟨a0.1, a1.1, a2.1, a3.1, a4.1, a5.1, a6.1, a7.1, 0, 0, [], [], [], [], [], []⟩) (vs' := nl) (vm' := nl) (vi' := nl) (vp' := nl) (vt' := nl) (by omega) rfl rfl ?_
  intro w23 h23a hq23
  try simp only [RS0, RS1, RS2, RS3, RS4, RS5]
  refine h23a.put (j := 8) (r' := ⟨a0.1, a1.1, a2.1, a3.1, a4.1, a5.1, a6.1, a7.1, a8.1, 0, [], [], [], [], [], []⟩) (vs' := nl) (vm' := nl) (vi' := nl) (vp' := nl) (vt' := nl) (by omega) rfl rfl ?_
  intro w24 h24a hq24
  try simp only [RS0, RS1, RS2, RS3, RS4, RS5]
  refine h24a.put (j := 9) (r' := ⟨a0.1, a1.1, a2.1, a3.1, a4.1, a5.1, a6.1, a7.1, a8.1, a9.1, [], [], [], [], [], []⟩) (vs' := nl) (vm' := nl) (vi' := nl) (vp' := nl) (vt' := nl) (by omega) rfl rfl ?_
  intro w25 h25a hq25
  simp only [RS0, RS1, RS2, RS3, RS4, RS5, h25a.cp]
  refine h25a.text ?_
  intro w26 h26a hq26
  have it := rt_in (most := 512) (by omega) a9.2
  generalize et : rt 512 a9.2 = at_ at h26a it ⊢
  try simp only [RS0, RS1, RS2, RS3, RS4, RS5]
  refine h26a.put (j := 10) (r' := ⟨a0.1, a1.1, a2.1, a3.1, a4.1, a5.1, a6.1, a7.1, a8.1, a9.1, at_.1, [], [], [], [], []⟩) (vs' := nl) (vm' := nl) (vi' := nl) (vp' := nl) (vt' := nl) (by omega) rfl rfl ?_
  intro w27 h27a hq27
  have hten : ten s = ([a0.1, a1.1, a2.1, a3.1, a4.1, a5.1, a6.1, a7.1, a8.1, a9.1], a9.2) := by
    simp only [ten, e0, e1, e2, e3, e4, e5, e6, e7, e8, e9]
  have hout : outerP s = tailP [a0.1, a1.1, a2.1, a3.1, a4.1, a5.1, a6.1, a7.1, a8.1, a9.1] a9.2 := by unfold outerP; rw [hten]
  rw [tail_eq, et] at hout
  have hz27 : x5 < w27.heap.size := h27a.x.lt
  have hd27 := Fm.drew (fun _ => False) w27
  have g0 := h27a.keepG hd27 (fun _ e => e.elim)
  refine ⟨fun w' => w'.heap[r4]? = some (.cells #[pv rb] 181), g0.rp, ?_⟩
  simp only [RS0, RS1, RS2, RS3, RS4, RS5, h27a.cp, g0.cp, true_and]
  refine ⟨pv rb, fun w9 h9 => ?_, ?_⟩
  · have : w9.cell? ⟨r4, 0, none⟩ = some (pv rb) := by rw [cell_at h9]; rfl
    simp only [RS0, RS1, RS2, RS3, RS4, RS5, this]; trivial
  have hzd : x5 < w27.drew.heap.size := hz27
  generalize w27.drew = wd at hd27 g0 hzd
  refine g0.list ?_
  intro vs w30 g30 ho30 hq30
  refine ⟨g30.rp, ?_⟩
  have hz30 := hq30.size
  try simp only [RS0, RS1, RS2, RS3, RS4, RS5]
  refine g30.list ?_
  intro vm w31 g31 ho31 hq31
  have isl := rl_in (most := 255) (by omega) at_.2
  generalize rl 255 at_.2 = sl at g30 ho30 g31 ho31 hout isl ⊢
  have imo := rl_in (most := 255) (by omega) sl.2
  generalize rl 255 sl.2 = mo at g31 ho31 hout imo ⊢
  have ho4 := g0.o3
  have ho5 := g0.o4
  have ho30' := own_keep ho30 hq31 (fun k hk _ _ e => by omega)
  refine g31.put (j := 11) (r' := ⟨a0.1, a1.1, a2.1, a3.1, a4.1, a5.1, a6.1, a7.1, a8.1, a9.1, at_.1, sl.1, [], [], [], []⟩) (vs' := vs) (vm' := nl) (vi' := nl) (vp' := nl) (vt' := nl) (by omega) (own_one ho30) rfl ?_
  intro w32 g32 hq32
  try simp only [RS0, RS1, RS2, RS3, RS4, RS5]
  refine g32.put (j := 12) (r' := ⟨a0.1, a1.1, a2.1, a3.1, a4.1, a5.1, a6.1, a7.1, a8.1, a9.1, at_.1, sl.1, mo.1, [], [], []⟩) (vs' := vs) (vm' := vm) (vi' := nl) (vp' := nl) (vt' := nl) (by omega) (own_one ho31) rfl ?_
  intro w33 g33 hq33
  have hrow : Rows w33 (x5 + 1) ⟨a0.1, a1.1, a2.1, a3.1, a4.1, a5.1, a6.1, a7.1, a8.1, a9.1, at_.1, sl.1, mo.1, [], [], []⟩ vs vm nl nl nl := by
    refine ⟨own_base (own_keep (own_keep ho30' hq32 (fun k hk _ _ e => by omega)) hq33 (fun k hk _ _ e => by omega)) (by omega), own_base (own_keep (own_keep ho31 hq32 (fun k hk _ _ e => by omega)) hq33 (fun k hk _ _ e => by omega)) (by omega), ⟨[], rfl, World.ownsRow_nil _ _ _ _, by simp⟩, World.ownsRow_nil _ _ _ _, World.ownsRow_nil _ _ _ _⟩
  -- the images
  simp only [RS0, RS1, RS2, RS3, RS4, RS5, g33.cp]
  refine g33.numk (by omega) ?_
  intro w34 g34 hq34
  have ini := rn_in 4 mo.2
  generalize rn 4 mo.2 = ni at g34 hout ini ⊢
  have hrow34 := hrow.keep hq34 (fun y e => by omega)
  obtain ⟨N, hN⟩ := Int.eq_ofNat_of_zero_le ini.1
  rw [hN, Int.toNat_natCast] at hout
  rw [hN]
  have hN4 : N ≤ 4 := by have := ini.2.1; omega
  refine ⟨fun vl w' => ∃ (i : Nat) (L : List (Int × Pg)) (st : St2) (vi : Value), vl = [iv i] ∧ i ≤ N ∧ L.length = i ∧ HS w w' x2 rb r4 x5 st ⟨a0.1, a1.1, a2.1, a3.1, a4.1, a5.1, a6.1, a7.1, a8.1, a9.1, at_.1, sl.1, mo.1, L, [], []⟩ vs vm vi nl nl ∧ Rows w' (x5 + 1) ⟨a0.1, a1.1, a2.1, a3.1, a4.1, a5.1, a6.1, a7.1, a8.1, a9.1, at_.1, sl.1, mo.1, L, [], []⟩ vs vm vi nl nl ∧ riGo N ni.2 = (riGo (N - i) st).map fun q => (L ++ q.1, q.2), fun vl _ => (N - nth vl 0).toNat, ⟨0, [], ni.2, nl, rfl, by omega, rfl, g34, hrow34, by rw [Nat.sub_zero]; simp⟩, ?_⟩
  rintro _ w35 iv35 ⟨i, L, st, vi, hvl, hi, hL, g35, hr35, heq⟩
  cases hvl
  by_cases hlt : i < N
  · have d1 : decide ((i : Int) < (N : Int)) = true := by rw [decide_eq_true_eq]; omega
    have ei : IntKind.i64.wrap ((i : Int) + 1) = ((i + 1 : Nat) : Int) := by rw [wrap_id] <;> omega
    obtain ⟨m, hm⟩ : ∃ m, N - i = m + 1 := ⟨N - i - 1, by omega⟩
    have hm1 : N - (i + 1) = m := by omega
    rw [hm, riGo] at heq
    have hd35 := Fm.drew (fun _ => False) w35
    have g36 := g35.keepG hd35 (fun _ e => e.elim)
    have hr36 := hr35.keep hd35 (fun _ e => e.elim)
    simp only [RS0, RS1, RS2, RS3, RS4, RS5, d1]
    refine ⟨fun w' => w'.heap[r4]? = some (.cells #[pv rb] 181), g36.rp, pv rb, fun w9 h9 => ?_, ?_⟩
    · have : w9.cell? ⟨r4, 0, none⟩ = some (pv rb) := by rw [cell_at h9]; rfl
      simp only [RS0, RS1, RS2, RS3, RS4, RS5, this]; trivial
    generalize w35.drew = w36 at hd35 g36 hr36
    refine g36.num ?_
    intro w37 g37 hq37
    have hr37 := hr36.keep hq37 (fun y e => by omega)
    refine ⟨g37.rp, ?_⟩
    refine g37.text ?_
    intro w38 g38 hq38
    have hr38 := hr37.keep hq38 (fun y e => by omega)
    have ip := rn_in 4611686018427387904 st
    generalize rn 4611686018427387904 st = pa at g37 g38 heq ip ⊢
    have itt := rt_in (most := 512) (by omega) pa.2
    generalize rt 512 pa.2 = tt at g38 heq itt ⊢
    have e5 : IntKind.i64.wrap (512 - (tt.1.length : Int)) = ((512 - tt.1.length : Nat) : Int) := by rw [wrap_id] <;> omega
    have hmk : ByteArray.mk #[0] = str [0] := rfl
    simp only [RS0, RS1, RS2, RS3, RS4, RS5, str_size, e5, hmk]
    refine (repeat_spec w38 (512 - tt.1.length) (by omega)).mono ?_
    rintro _ w39 ⟨rfl, hq39⟩
    have g39 := g38.keepG hq39 (fun _ e => e.elim)
    have hr39 := hr38.keep hq39 (fun _ e => e.elim)
    rw [sadd (by rw [zeros_len]; omega)]
    try simp only [RS0, RS1, RS2, RS3, RS4, RS5]
    have hpad : tt.1 ++ zeros (512 - tt.1.length) = padZ tt.1 := rfl
    have hpl : (padZ tt.1).length = 512 := by unfold padZ; rw [List.length_append, zeros_len]; omega
    rw [hpad]
    refine (decode_spec w39 (padZ tt.1) (by omega)).mono ?_
    rintro _ w40 ⟨pc, rfl, hO40, hq40⟩
    have g40 := g39.keepG hq40 (fun _ e => e.elim)
    have hr40 := hr39.keep hq40 (fun _ e => e.elim)
    have hA40 := hO40.as
    have hz40 := hq40.size
    have hx39 := g39.x.lt
    simp only [RS0, RS1, RS2, RS3, RS4, RS5]
    refine New_any ?_
    intro x9 w41 hx9 hs41 hw41 hf41
    refine St_all hw41 rfl hA40.size hA40.one ?_
    intro w42 hw42 hs42 hf42
    have hf4042 : Fm (fun _ => False) w40 w42 := Fm.own hf41 hf42 (by rintro y rfl; omega)
    have g42 := g40.keepG hf4042 (fun _ e => e.elim)
    have hr42 := hr40.keep hf4042 (fun _ e => e.elim)
    have hO42 := hO40.keep hf4042
    -- out of the images
    have bad : (decide ((pDec (padZ tt.1)).2 = 0) && decide (tt.2.2 = 0)) = false → outerP s = none := fun hb => by
      rw [hout, heq, hb]; rfl
    have early : ∀ w', HS w w' x2 rb r4 x5 tt.2 ⟨a0.1, a1.1, a2.1, a3.1, a4.1, a5.1, a6.1, a7.1, a8.1, a9.1, at_.1, sl.1, mo.1, L, [], []⟩ vs vm vi nl nl → Rows w' (x5 + 1) ⟨a0.1, a1.1, a2.1, a3.1, a4.1, a5.1, a6.1, a7.1, a8.1, a9.1, at_.1, sl.1, mo.1, L, [], []⟩ vs vm vi nl nl → outerP s = none → Pu (cellsV w' ⟨x5, 0, none⟩ 16) (fun t79_166 =>
        St 16 w' (.pointer (some ⟨x2, 0, none⟩)) t79_166 fun u_168 w_169 =>
        RetO (resL Tryz.prog (fun j => bif Nat.beq j 2 then .pointer (some ⟨x2, 0, none⟩) else bif Nat.beq j 3 then (Value.bool false) else undef) w_169 [(ResultVar.cell 2 28), (ResultVar.tmp 3)]) w_169 (fun v w' => ∃ cs ok, v = .tuple #[.agg cs, .bool ok] ∧ cs.size = 16 ∧ (∀ u ∈ cs.toList, u.oneCell' = true) ∧ (ok = false → outerP s = none) ∧ (ok = true → ∃ x vs vm vi vp vt, outerP s = some x ∧ cs = rcs x vs vm vi vp vt ∧ Rows w' w.heap.size x vs vm vi vp vt) ∧ Fm (fun _ => False) w w')) := by
      intro w' gg rr hno
      simp only [RS0, RS1, RS2, RS3, RS4, RS5, gg.x.all]
      refine gg.ret rr.one false ?_
      intro w'' hf''
      have := gg.o1
      exact ⟨_, _, rfl, rfl, rr.one, fun _ => hno, fun e => (by cases e), Fm.own gg.fm hf'' (by rintro y rfl; omega)⟩
    simp only [RS0, RS1, RS2, RS3, RS4, RS5, bne_dec]
    cases hz1 : decide ((pDec (padZ tt.1)).2 = 0) with
    | false =>
      simp only [RS0, RS1, RS2, RS3, RS4, RS5]
      have := early w42 g42 hr42 (bad (by rw [hz1, Bool.false_and]))
      exact this
    | true =>
    simp only [RS0, RS1, RS2, RS3, RS4, RS5, g42.cp]
    refine (berr_spec g42.rd).mono ?_
    rintro _ w43 ⟨rfl, rfl⟩
    simp only [RS0, RS1, RS2, RS3, RS4, RS5, bne_dec]
    cases hz2 : decide (tt.2.2 = 0) with
    | false =>
      simp only [RS0, RS1, RS2, RS3, RS4, RS5]
      have := early w43 g42 hr42 (bad (by rw [hz2, Bool.and_false]))
      exact this
    | true =>
    rw [hz1, hz2] at heq
    obtain ⟨pv_, rfl, hov⟩ := hO42.ex
    have hps : ∃ a n c, pv_ = .slice a n c := by
      rcases hov.2 with ⟨rfl, _⟩ | ⟨g, cap, cur, rfl, _⟩ <;> exact ⟨_, _, _, rfl⟩
    obtain ⟨pa1, pn1, pc1, rfl⟩ := hps
    simp only [RS0, RS1, RS2, RS3, RS4, RS5, g42.x.c13, cellsV_blk hw42 hA40.size]
    refine RunS_ok (bld90 _ _ _ _ _ _) ?_
    refine RunS_ok (bs48 _ _ _ _ _ _) ?_
    have hf44 := Fm.alloc (fun _ => False) w43 (.cells (imC (pa.1, (pDec (padZ tt.1)).1, .slice pa1 pn1 pc1)).toArray 118)
    have hn44 := alloc_new w43 (.cells (imC (pa.1, (pDec (padZ tt.1)).1, .slice pa1 pn1 pc1)).toArray 118)
    have g44 := g42.keepG hf44 (fun _ e => e.elim)
    have hr44 := hr42.keep hf44 (fun _ e => e.elim)
    have hO44 := own_keep hov hf44 (fun _ _ _ _ e => e)
    have hz44 := hf44.size
    generalize w43.alloc (.cells (imC (pa.1, (pDec (padZ tt.1)).1, .slice pa1 pn1 pc1)).toArray 118) = w44 at hf44 hn44 g44 hr44 hO44 hz44
    have hx44 := g44.x.lt
    obtain ⟨X, hX1, hX2, hX3⟩ := hr44.hi
    have hXl : X.length = i := by have := congrArg List.length hX1; rw [List.length_map] at this; rw [this]; exact hL
    obtain ⟨vi', w45, hr45, ho45, _, hf45⟩ := app_fine Er48 (by omega) hX2 (cs := imC (pa.1, (pDec (padZ tt.1)).1, .slice pa1 pn1 pc1)) hn44 rfl (by intro q hq; simp [imC, pcs] at hq; rcases hq with rfl | rfl | rfl | rfl | rfl | rfl | rfl <;> rfl) (by omega) (by unfold maxLen; omega) (by omega)
    refine RunS_ok hr45 ?_
    have hlt45 := own_lt hX2
    have g45 := g44.keepG hf45 (fun y hy => by have := hlt45 y hy; omega)
    try simp only [RS0, RS1, RS2, RS3, RS4, RS5]
    refine g45.put (j := 13) (r' := ⟨a0.1, a1.1, a2.1, a3.1, a4.1, a5.1, a6.1, a7.1, a8.1, a9.1, at_.1, sl.1, mo.1, (L ++ [(pa.1, (pDec (padZ tt.1)).1)]), [], []⟩) (vs' := vs) (vm' := vm) (vi' := vi') (vp' := nl) (vt' := nl) (by omega) (own_one ho45) rfl ?_
    intro w46 g46 hq46
    simp only [RS0, RS1, RS2, RS3, RS4, RS5, ei]
    refine ⟨⟨i + 1, L ++ [(pa.1, (pDec (padZ tt.1)).1)], tt.2, vi', rfl, by omega, by rw [List.length_append, hL]; rfl, g46, ?_, ?_⟩, by simp only [nth_0]; omega⟩
    · have q46 : ∀ k, x5 + 1 ≤ k → ¬ k = x5 := fun k hk e => by omega
      have a3 := fun k hk => own_apart hX2 hr44.hs (by decide) k hk
      refine ⟨own_keep (own_keep hr44.hs hf45 (fun k _ _ hk e => own_apart hX2 hr44.hs (by decide) k e hk)) hq46 (fun k hk _ _ => q46 k hk), own_keep (own_keep hr44.hm hf45 (fun k _ _ hk e => own_apart hX2 hr44.hm (by decide) k e hk)) hq46 (fun k hk _ _ => q46 k hk), ⟨X ++ [(pa.1, (pDec (padZ tt.1)).1, .slice pa1 pn1 pc1)], ?_, ?_, ?_⟩, World.ownsRow_nil _ _ _ _, World.ownsRow_nil _ _ _ _⟩
      · rw [List.map_append, hX1]; rfl
      · rw [List.length_append, List.flatMap_append, List.flatMap_cons, List.flatMap_nil, List.append_nil]
        exact own_keep ho45 hq46 (fun k hk _ _ => q46 k hk)
      · intro x hx
        rcases List.mem_append.1 hx with hx | hx
        · obtain ⟨q1, q2, q3⟩ := hX3 x hx
          have q4 := own_keep (own_keep q2 hf45 (fun k _ _ hk e => own_apart hX2 q2 (by decide) k e hk)) hq46 (fun k hk _ _ => q46 k hk)
          exact ⟨q1, q4, pgas_own q4 q3⟩
        · obtain rfl : x = (pa.1, (pDec (padZ tt.1)).1, .slice pa1 pn1 pc1) := by simpa using hx
          have q2 := own_base hO44 (show x5 + 1 ≤ w39.heap.size by omega)
          have q4 := own_keep (own_keep q2 hf45 (fun k _ _ hk e => own_apart hX2 q2 (by decide) k e hk)) hq46 (fun k hk _ _ => q46 k hk)
          exact ⟨rfl, q4, pgas_own q4 hO42.as⟩
    · rw [heq, hm1]
      cases riGo m tt.2 with
      | none => rfl
      | some q => simp
  · have hie : i = N := by omega
    subst hie
    have d1 : decide ((i : Int) < (i : Int)) = false := by simp
    rw [Nat.sub_self, riGo] at heq
    simp only [Option.map_some, List.append_nil] at heq
    rw [heq, Option.bind_some] at hout
    unfold tailG at hout
    simp only at hout
    -- pairs
    simp only [RS0, RS1, RS2, RS3, RS4, RS5, d1, g35.cp]
    refine g35.numk (by omega) ?_
    intro w60 g60 hq60
    have in60 := rn_in 8192 st
    generalize rn 8192 st = n60 at g60 hout in60 ⊢
    have hr60 := hr35.keep hq60 (fun y e => by omega)
    obtain ⟨N60, hN60⟩ := Int.eq_ofNat_of_zero_le in60.1
    rw [hN60, Int.toNat_natCast] at hout
    rw [hN60]
    have hNl60 : N60 ≤ 8192 := by have := in60.2.1; omega
    refine ⟨fun vl w' => ∃ (i : Nat) (P : List (Int × Int)) (st : St2) (vx : Value), vl = [iv i] ∧ i ≤ N60 ∧ P.length = i ∧ HS w w' x2 rb r4 x5 st ⟨a0.1, a1.1, a2.1, a3.1, a4.1, a5.1, a6.1, a7.1, a8.1, a9.1, at_.1, sl.1, mo.1, L, P, []⟩ vs vm vi vx nl ∧ Rows w' (x5 + 1) ⟨a0.1, a1.1, a2.1, a3.1, a4.1, a5.1, a6.1, a7.1, a8.1, a9.1, at_.1, sl.1, mo.1, L, P, []⟩ vs vm vi vx nl ∧ rpGo N60 n60.2 = (rpGo (N60 - i) st).map fun q => (P ++ q.1, q.2), fun vl _ => (N60 - nth vl 0).toNat, ⟨0, [], n60.2, nl, rfl, by omega, rfl, g60, hr60, by rw [Nat.sub_zero]; simp⟩, ?_⟩
    rintro _ w61 iv61 ⟨j, PG1, st61, vx61, hvl, hj, hP, g61, hr61, heq61⟩
    cases hvl
    by_cases hlt : j < N60
    · have d2 : decide ((j : Int) < (N60 : Int)) = true := by rw [decide_eq_true_eq]; omega
      have ei : IntKind.i64.wrap ((j : Int) + 1) = ((j + 1 : Nat) : Int) := by rw [wrap_id] <;> omega
      obtain ⟨m, hm⟩ : ∃ m, N60 - j = m + 1 := ⟨N60 - j - 1, by omega⟩
      have hm1 : N60 - (j + 1) = m := by omega
      rw [hm, rpGo] at heq61
      simp only [RS0, RS1, RS2, RS3, RS4, RS5, d2, g61.cp]
      refine (berr_spec g61.rd).mono ?_
      rintro _ w50 ⟨rfl, rfl⟩
      simp only [RS0, RS1, RS2, RS3, RS4, RS5, bne_dec]
      cases hz3 : decide (st61.2 = 0) with
      | false =>
        rw [hz3, cond_false] at heq61
        have hno : outerP s = none := by rw [hout, heq61]; rfl
        simp only [RS0, RS1, RS2, RS3, RS4, RS5, g61.x.all]
        refine g61.ret hr61.one false ?_
        intro w'' hf''
        have := g61.o1
        exact ⟨_, _, rfl, rfl, hr61.one, fun _ => hno, fun e => (by cases e), Fm.own g61.fm hf'' (by rintro y rfl; omega)⟩
      | true =>
      rw [hz3, cond_true] at heq61
      have hd50 := Fm.drew (fun _ => False) w50
      have g51 := g61.keepG hd50 (fun _ e => e.elim)
      have hr51 := hr61.keep hd50 (fun _ e => e.elim)
      simp only [RS0, RS1, RS2, RS3, RS4, RS5]
      refine ⟨fun w' => w'.cell? ⟨x5, 14, none⟩ = some vx61, g51.x.c14, ?_⟩
      try simp only [RS0, RS1, RS2, RS3, RS4, RS5]
      refine ⟨vx61, fun w9 h9 => ?_, ?_⟩
      · simp only [RS0, RS1, RS2, RS3, RS4, RS5, h9]; trivial
      generalize w50.drew = w51 at hd50 g51 hr51
      refine g51.num ?_
      intro w52 g52 hq52
      have hr52 := hr51.keep hq52 (fun y e => by omega)
      refine ⟨g52.x.c14, ?_⟩
      refine g52.num ?_
      intro w53 g53 hq53
      have hr53 := hr52.keep hq53 (fun y e => by omega)
      refine ⟨g53.x.c14, ?_⟩
      generalize rn 4611686018427387904 st61 = pa at g52 g53 heq61 ⊢
      generalize rn 4611686018427387904 pa.2 = pb at g53 heq61 ⊢
      refine RunS_ok (bld96 _ _ _) ⟨rfl, ?_⟩
      refine RunS_ok (bs49 _ _ _) ?_
      have hf54 := Fm.alloc (fun _ => False) w53 (.cells (pc2 (pa.1, pb.1)).toArray 120)
      have hn54 := alloc_new w53 (.cells (pc2 (pa.1, pb.1)).toArray 120)
      have g54 := g53.keepG hf54 (fun _ e => e.elim)
      have hr54 := hr53.keep hf54 (fun _ e => e.elim)
      generalize w53.alloc (.cells (pc2 (pa.1, pb.1)).toArray 120) = w54 at hf54 hn54 g54 hr54
      refine ⟨g54.x.c14, ?_⟩
      have hx54 := g54.x.lt
      have hh54 : w54.ownsRow (x5 + 1) 120 2 vx61 PG1.length (PG1.flatMap pc2) := hr54.hp
      obtain ⟨vx', w55, hr55, ho55, _, hf55⟩ := app_fine Er49 (by omega) hh54 (cs := pc2 (pa.1, pb.1)) hn54 rfl (by intro q hq; simp [pc2] at hq; rcases hq with rfl | rfl <;> rfl) (by omega) (by unfold maxLen; omega) (by omega)
      refine RunS_ok hr55 ?_
      have hlt55 := own_lt hr54.hp
      have g55 := g54.keepG hf55 (fun y hy => by have := hlt55 y hy; omega)
      try simp only [RS0, RS1, RS2, RS3, RS4, RS5]
      refine g55.put (j := 14) (r' := ⟨a0.1, a1.1, a2.1, a3.1, a4.1, a5.1, a6.1, a7.1, a8.1, a9.1, at_.1, sl.1, mo.1, L, (PG1 ++ [(pa.1, pb.1)]), []⟩) (vs' := vs) (vm' := vm) (vi' := vi) (vp' := vx') (vt' := nl) (by omega) (own_one ho55) rfl ?_
      intro w56 g56 hq56
      simp only [RS0, RS1, RS2, RS3, RS4, RS5, ei]
      refine ⟨⟨j + 1, PG1 ++ [(pa.1, pb.1)], pb.2, vx', rfl, by omega, by rw [List.length_append, hP]; rfl, g56, ?_, ?_⟩, by simp only [nth_0]; omega⟩
      · have q56 : ∀ k, x5 + 1 ≤ k → ¬ k = x5 := fun k hk e => by omega
        have hrow56 := ho55
        have kk : ∀ {b1 : Nat} {e1 : TypeId} {s1 : Nat} {v1 : Value} {n1 : Nat} {y1 : List Value}, w54.ownsRow (x5 + 1) e1 s1 v1 n1 y1 → 120 ≠ e1 → w56.ownsRow (x5 + 1) e1 s1 v1 n1 y1 := fun hh he => own_keep (own_keep hh hf55 (fun k _ _ hk e => own_apart hr54.hp hh he k e hk)) hq56 (fun k hk _ _ => q56 k hk)
        obtain ⟨X, hX1, hX2, hX3⟩ := hr54.hi
        refine ⟨kk (b1 := 0) hr54.hs (by decide), kk (b1 := 0) hr54.hm (by decide), ⟨X, hX1, kk (b1 := 0) hX2 (by decide), fun x hx => ?_⟩, by
          show w56.ownsRow _ _ _ _ (PG1 ++ [(pa.1, pb.1)]).length _
          rw [List.length_append, List.flatMap_append, List.flatMap_cons, List.flatMap_nil, List.append_nil]
          exact own_keep ho55 hq56 (fun k hk _ _ => q56 k hk), World.ownsRow_nil _ _ _ _⟩
        obtain ⟨q1, q2, q3⟩ := hX3 x hx
        have q4 := kk (b1 := 0) q2 (by decide)
        exact ⟨q1, q4, pgas_own q4 q3⟩
      · rw [heq61, hm1]
        cases rpGo m pb.2 with
        | none => rfl
        | some q => simp
    have hje : j = N60 := by omega
    subst hje
    have d61 : decide ((j : Int) < (j : Int)) = false := by simp
    rw [Nat.sub_self, rpGo] at heq61
    simp only [Option.map_some, List.append_nil] at heq61
    rw [heq61, Option.bind_some] at hout
    unfold tailH at hout
    simp only at hout
    -- pairs
    simp only [RS0, RS1, RS2, RS3, RS4, RS5, d61, g61.cp]
    refine g61.numk (by omega) ?_
    intro w70 g70 hq70
    have in70 := rn_in 1024 st61
    generalize rn 1024 st61 = n70 at g70 hout in70 ⊢
    have hr70 := hr61.keep hq70 (fun y e => by omega)
    obtain ⟨N70, hN70⟩ := Int.eq_ofNat_of_zero_le in70.1
    rw [hN70, Int.toNat_natCast] at hout
    rw [hN70]
    have hNl70 : N70 ≤ 1024 := by have := in70.2.1; omega
    refine ⟨fun vl w' => ∃ (i : Nat) (P : List (Int × Int)) (st : St2) (vx : Value), vl = [iv i] ∧ i ≤ N70 ∧ P.length = i ∧ HS w w' x2 rb r4 x5 st ⟨a0.1, a1.1, a2.1, a3.1, a4.1, a5.1, a6.1, a7.1, a8.1, a9.1, at_.1, sl.1, mo.1, L, PG1, P⟩ vs vm vi vx61 vx ∧ Rows w' (x5 + 1) ⟨a0.1, a1.1, a2.1, a3.1, a4.1, a5.1, a6.1, a7.1, a8.1, a9.1, at_.1, sl.1, mo.1, L, PG1, P⟩ vs vm vi vx61 vx ∧ rpGo N70 n70.2 = (rpGo (N70 - i) st).map fun q => (P ++ q.1, q.2), fun vl _ => (N70 - nth vl 0).toNat, ⟨0, [], n70.2, nl, rfl, by omega, rfl, g70, hr70, by rw [Nat.sub_zero]; simp⟩, ?_⟩
    rintro _ w71 iv71 ⟨j, TX1, st71, vx71, hvl, hj, hP, g71, hr71, heq71⟩
    cases hvl
    by_cases hlt : j < N70
    · have d2 : decide ((j : Int) < (N70 : Int)) = true := by rw [decide_eq_true_eq]; omega
      have ei : IntKind.i64.wrap ((j : Int) + 1) = ((j + 1 : Nat) : Int) := by rw [wrap_id] <;> omega
      obtain ⟨m, hm⟩ : ∃ m, N70 - j = m + 1 := ⟨N70 - j - 1, by omega⟩
      have hm1 : N70 - (j + 1) = m := by omega
      rw [hm, rpGo] at heq71
      simp only [RS0, RS1, RS2, RS3, RS4, RS5, d2, g71.cp]
      refine (berr_spec g71.rd).mono ?_
      rintro _ w50 ⟨rfl, rfl⟩
      simp only [RS0, RS1, RS2, RS3, RS4, RS5, bne_dec]
      cases hz3 : decide (st71.2 = 0) with
      | false =>
        rw [hz3, cond_false] at heq71
        have hno : outerP s = none := by rw [hout, heq71]; rfl
        simp only [RS0, RS1, RS2, RS3, RS4, RS5, g71.x.all]
        refine g71.ret hr71.one false ?_
        intro w'' hf''
        have := g71.o1
        exact ⟨_, _, rfl, rfl, hr71.one, fun _ => hno, fun e => (by cases e), Fm.own g71.fm hf'' (by rintro y rfl; omega)⟩
      | true =>
      rw [hz3, cond_true] at heq71
      have hd50 := Fm.drew (fun _ => False) w50
      have g51 := g71.keepG hd50 (fun _ e => e.elim)
      have hr51 := hr71.keep hd50 (fun _ e => e.elim)
      simp only [RS0, RS1, RS2, RS3, RS4, RS5]
      refine ⟨fun w' => w'.cell? ⟨x5, 15, none⟩ = some vx71, g51.x.c15, ?_⟩
      try simp only [RS0, RS1, RS2, RS3, RS4, RS5]
      refine ⟨vx71, fun w9 h9 => ?_, ?_⟩
      · simp only [RS0, RS1, RS2, RS3, RS4, RS5, h9]; trivial
      generalize w50.drew = w51 at hd50 g51 hr51
      refine g51.num ?_
      intro w52 g52 hq52
      have hr52 := hr51.keep hq52 (fun y e => by omega)
      refine ⟨g52.x.c15, ?_⟩
      refine g52.num ?_
      intro w53 g53 hq53
      have hr53 := hr52.keep hq53 (fun y e => by omega)
      refine ⟨g53.x.c15, ?_⟩
      generalize rn 4611686018427387904 st71 = pa at g52 g53 heq71 ⊢
      generalize rn 4611686018427387904 pa.2 = pb at g53 heq71 ⊢
      refine RunS_ok (bld99 _ _ _) ⟨rfl, ?_⟩
      refine RunS_ok (bs50 _ _ _) ?_
      have hf54 := Fm.alloc (fun _ => False) w53 (.cells (pc2 (pa.1, pb.1)).toArray 122)
      have hn54 := alloc_new w53 (.cells (pc2 (pa.1, pb.1)).toArray 122)
      have g54 := g53.keepG hf54 (fun _ e => e.elim)
      have hr54 := hr53.keep hf54 (fun _ e => e.elim)
      generalize w53.alloc (.cells (pc2 (pa.1, pb.1)).toArray 122) = w54 at hf54 hn54 g54 hr54
      refine ⟨g54.x.c15, ?_⟩
      have hx54 := g54.x.lt
      have hh54 : w54.ownsRow (x5 + 1) 122 2 vx71 TX1.length (TX1.flatMap pc2) := hr54.ht
      obtain ⟨vx', w55, hr55, ho55, _, hf55⟩ := app_fine Er50 (by omega) hh54 (cs := pc2 (pa.1, pb.1)) hn54 rfl (by intro q hq; simp [pc2] at hq; rcases hq with rfl | rfl <;> rfl) (by omega) (by unfold maxLen; omega) (by omega)
      refine RunS_ok hr55 ?_
      have hlt55 := own_lt hr54.ht
      have g55 := g54.keepG hf55 (fun y hy => by have := hlt55 y hy; omega)
      try simp only [RS0, RS1, RS2, RS3, RS4, RS5]
      refine g55.put (j := 15) (r' := ⟨a0.1, a1.1, a2.1, a3.1, a4.1, a5.1, a6.1, a7.1, a8.1, a9.1, at_.1, sl.1, mo.1, L, PG1, (TX1 ++ [(pa.1, pb.1)])⟩) (vs' := vs) (vm' := vm) (vi' := vi) (vp' := vx61) (vt' := vx') (by omega) (own_one ho55) rfl ?_
      intro w56 g56 hq56
      simp only [RS0, RS1, RS2, RS3, RS4, RS5, ei]
      refine ⟨⟨j + 1, TX1 ++ [(pa.1, pb.1)], pb.2, vx', rfl, by omega, by rw [List.length_append, hP]; rfl, g56, ?_, ?_⟩, by simp only [nth_0]; omega⟩
      · have q56 : ∀ k, x5 + 1 ≤ k → ¬ k = x5 := fun k hk e => by omega
        have hrow56 := ho55
        have kk : ∀ {b1 : Nat} {e1 : TypeId} {s1 : Nat} {v1 : Value} {n1 : Nat} {y1 : List Value}, w54.ownsRow (x5 + 1) e1 s1 v1 n1 y1 → 122 ≠ e1 → w56.ownsRow (x5 + 1) e1 s1 v1 n1 y1 := fun hh he => own_keep (own_keep hh hf55 (fun k _ _ hk e => own_apart hr54.ht hh he k e hk)) hq56 (fun k hk _ _ => q56 k hk)
        obtain ⟨X, hX1, hX2, hX3⟩ := hr54.hi
        refine ⟨kk (b1 := 0) hr54.hs (by decide), kk (b1 := 0) hr54.hm (by decide), ⟨X, hX1, kk (b1 := 0) hX2 (by decide), fun x hx => ?_⟩, kk (b1 := 0) hr54.hp (by decide), by
          show w56.ownsRow _ _ _ _ (TX1 ++ [(pa.1, pb.1)]).length _
          rw [List.length_append, List.flatMap_append, List.flatMap_cons, List.flatMap_nil, List.append_nil]
          exact own_keep ho55 hq56 (fun k hk _ _ => q56 k hk)⟩
        obtain ⟨q1, q2, q3⟩ := hX3 x hx
        have q4 := kk (b1 := 0) q2 (by decide)
        exact ⟨q1, q4, pgas_own q4 q3⟩
      · rw [heq71, hm1]
        cases rpGo m pb.2 with
        | none => rfl
        | some q => simp
    have hje : j = N70 := by omega
    subst hje
    have d71 : decide ((j : Int) < (j : Int)) = false := by simp
    rw [Nat.sub_self, rpGo] at heq71
    simp only [Option.map_some, List.append_nil] at heq71
    rw [heq71, Option.bind_some] at hout
    unfold tailI at hout
    simp only at hout
    have hd71 := Fm.drew (fun _ => False) w71
    have g72 := g71.keepG hd71 (fun _ e => e.elim)
    have hr72 := hr71.keep hd71 (fun _ e => e.elim)
    simp only [RS0, RS1, RS2, RS3, RS4, RS5, d71]
    refine ⟨fun w' => RB w' x5 ⟨a0.1, a1.1, a2.1, a3.1, a4.1, a5.1, a6.1, a7.1, a8.1, a9.1, at_.1, sl.1, mo.1, L, PG1, TX1⟩ vs vm vi vx61 vx71, g72.x, .agg (rcs ⟨a0.1, a1.1, a2.1, a3.1, a4.1, a5.1, a6.1, a7.1, a8.1, a9.1, at_.1, sl.1, mo.1, L, PG1, TX1⟩ vs vm vi vx61 vx71), fun w9 h9 => ?_, ?_⟩
    · simp only [RS0, RS1, RS2, RS3, RS4, RS5, h9.all]; trivial
    simp only [RS0, RS1, RS2, RS3, RS4, RS5, g71.cp, g72.cp, true_and]
    generalize w71.drew = w72 at hd71 g72 hr72
    refine (bend_spec g72.rd).mono ?_
    rintro _ w73 ⟨rfl, rfl⟩
    refine ⟨g72.x, ?_⟩
    simp only [RS0, RS1, RS2, RS3, RS4, RS5, beq_dec]
    refine g72.ret hr72.one _ ?_
    intro w74 hf74
    have ho1 := g72.o1
    have ho2 := g72.o2
    have ho3 := g72.o3
    refine ⟨_, _, rfl, rfl, hr72.one, fun e => ?_, fun e => ?_, Fm.own g72.fm hf74 (by rintro y rfl; omega)⟩
    · rw [hout, e]; rfl
    · rw [e, cond_true] at hout
      have hr74 := hr72.keep hf74 (fun y e => by omega)
      have b74 : ∀ {e1 : TypeId} {s1 : Nat} {v1 : Value} {n1 : Nat} {y1 : List Value}, w74.ownsRow (x5 + 1) e1 s1 v1 n1 y1 → w74.ownsRow w.heap.size e1 s1 v1 n1 y1 := fun hh => own_base hh (by have := g72.o4; omega)
      obtain ⟨X, hX1, hX2, hX3⟩ := hr74.hi
      exact ⟨_, _, _, _, _, _, hout, rfl, b74 hr74.hs, b74 hr74.hm, ⟨X, hX1, b74 hX2, fun x hx => ⟨(hX3 x hx).1, b74 (hX3 x hx).2.1, (hX3 x hx).2.2⟩⟩, b74 hr74.hp, b74 hr74.ht⟩

end Go.Proofs.YthbngnlmgplijaaGreatDoor

namespace Go.Proofs.YthbngnlmgplijaaGreatDoor
open Go.Al Go.Proofs
set_option linter.unusedVariables false
set_option linter.unusedSimpArgs false
set_option linter.unusedSectionVars false
set_option maxRecDepth 100000

def RdOk (w : World) (b : Nat) (cs : Array Value) : Option Rc → Prop
  | none => cs = rcs rc0 nl nl nl nl nl
  | some x => ∃ vs vm vi vp vt, cs = rcs x vs vm vi vp vt ∧ Rows w b x vs vm vi vp vt ∧ Bnd x
theorem rows0 (w : World) (b : Nat) : Rows w b rc0 nl nl nl nl nl := ⟨World.ownsRow_nil _ _ _ _, World.ownsRow_nil _ _ _ _, ⟨[], rfl, World.ownsRow_nil _ _ _ _, by simp⟩, World.ownsRow_nil _ _ _ _, World.ownsRow_nil _ _ _ _⟩
theorem bnd0 : Bnd rc0 := ⟨by intro n hn; simp [rNums, rc0, prs] at hn; subst hn; unfold okN; omega, by simp [rc0], by simp [rc0], by simp [rc0], by simp [rc0], by simp [rc0], by simp [rc0], by simp [rc0], by simp [rc0]⟩
theorem RdOk.as {w : World} {b : Nat} {cs : Array Value} {o : Option Rc} (h : RdOk w b cs o) : RcAs w cs (o.getD rc0) := by
  cases o with
  | none =>
    have h : cs = rcs rc0 nl nl nl nl nl := h
    subst h; exact (rows0 w b).asR bnd0
  | some x => obtain ⟨vs, vm, vi, vp, vt, rfl, h1, h2⟩ := h; exact h1.asR h2
theorem retRc {w : World} {g : Nat} {cs : Array Value} {n e : Value} (h : w.heap[g]? = some (.cells cs 28)) (hn : cs.size = 16) (k : KV) (hk : k (.tuple #[.agg cs, n, e]) w) :
    RetO (resL Tryz.prog (fun j => bif Nat.beq j 2 then .pointer (some ⟨g, 0, none⟩) else bif Nat.beq j 3 then n else bif Nat.beq j 4 then e else undef) w [(ResultVar.cell 2 28), (ResultVar.tmp 3), (ResultVar.tmp 4)]) w k := by
  have h3 : resV Tryz.prog (fun j => bif Nat.beq j 2 then .pointer (some ⟨g, 0, none⟩) else bif Nat.beq j 3 then n else bif Nat.beq j 4 then e else undef) w (.tmp 3) = some n := rfl
  have h4 : resV Tryz.prog (fun j => bif Nat.beq j 2 then .pointer (some ⟨g, 0, none⟩) else bif Nat.beq j 3 then n else bif Nat.beq j 4 then e else undef) w (.tmp 4) = some e := rfl
  simp only [resL, resV_blk (f := (fun j => bif Nat.beq j 2 then .pointer (some ⟨g, 0, none⟩) else bif Nat.beq j 3 then n else bif Nat.beq j 4 then e else undef)) (a := 2) rfl agg52 size52 h hn, h3, h4, RetO, RetV]
  exact hk

set_option maxHeartbeats 8000000 in
theorem rdec_spec (w : World) (d : Bs) (hd : d.length ≤ 1000000000000000) : Cl Tryz.prog 13 [stv d] w fun v w' => ∃ cs, v = .tuple #[.agg cs, iv (rDec d).2.1, iv (rDec d).2.2] ∧ RdOk w' w.heap.size cs (rDec d).1 ∧ Fm (fun _ => False) w w' := by
  refine c13 ?_; unfold T13
  refine New_any ?_
  intro x2 w1 hx2 hs1 hw1 hf1
  have hw1' : w1.heap[x2]? = some (.cells (rcs rc0 nl nl nl nl nl) 28) := hw1
  clear hw1
  have one0 : ∀ u ∈ (rcs rc0 nl nl nl nl nl).toList, u.oneCell' = true := rcs_one rfl rfl rfl rfl rfl
  -- an empty record
  have bad : ∀ (w' : World) (e : Int), w'.heap[x2]? = some (.cells (rcs rc0 nl nl nl nl nl) 28) → Fm (fun _ => False) w w' → rDec d = (none, 0, e) →
      RunS Tryz.prog (Instr.build 28 #[]) w' (fun t14_5 w_6 =>
      St 16 w_6 (pv x2) t14_5 fun u_7 w_8 =>
      RetO (resL Tryz.prog (fun j => bif Nat.beq j 2 then pv x2 else bif Nat.beq j 3 then (Value.int IntKind.i64 0) else bif Nat.beq j 4 then (Value.int IntKind.i64 e) else undef) w_8 [(ResultVar.cell 2 28), (ResultVar.tmp 3), (ResultVar.tmp 4)]) w_8 (fun v w' => ∃ cs, v = .tuple #[.agg cs, iv (rDec d).2.1, iv (rDec d).2.2] ∧ RdOk w' w.heap.size cs (rDec d).1 ∧ Fm (fun _ => False) w w')) := by
    intro w' e hw' hF hr
    refine RunS_ok (bld52z _) ?_
    refine St_all hw' rfl rfl one0 ?_
    intro w2 hw2 hs2 hf2
    refine retRc hw2 rfl _ ⟨_, by rw [hr]; rfl, by rw [hr]; rfl, Fm.own hF hf2 (by rintro y rfl; omega)⟩
  have hb : rDec d = (bif decide (d.length < 8) then (none, 0, 40)
    else bif decide (ofN (d.take 4) = 0) || decide (65535 < ofN (d.take 4)) then (none, 0, 41)
    else bif decide (d.length < 8 + ofN (d.take 4)) then (none, 0, 40)
    else bif !decide (ofN ((d.drop 4).take 4) = crc ((d.drop 8).take (ofN (d.take 4)))) then (none, 0, 30)
    else match outerP ((d.drop 8).take (ofN (d.take 4))) with
      | none => (none, 0, 41)
      | some x => bif decide ((rCheck x).2 = 0) && decide ((rCheck x).1 = (d.drop 8).take (ofN (d.take 4))) then (some x, 8 + ofN (d.take 4), 0) else (none, 0, 41) : Option Rc × Nat × Int) := rfl
  have d8 : decide ((d.length : Int) < 8) = decide (d.length < 8) := by rw [decide_eq_decide]; omega
  simp only [RS0, RS1, RS2, RS3, RS4, RS5, str_size, d8]
  cases h1 : decide (d.length < 8) with
  | true =>
    simp only [RS0, RS1, RS2, RS3, RS4, RS5]
    exact bad w1 40 hw1' hf1 (by rw [hb, h1]; rfl)
  | false =>
  have h8 : 8 ≤ d.length := by rw [decide_eq_false_iff_not] at h1; omega
  have s1 := slS_hi (l := d) (i := 4) (by omega) .i64
  have s1' : slS (stv d) none (some (Value.int .i64 4)) = some (stv (d.take 4)) := s1
  simp only [RS0, RS1, RS2, RS3, RS4, RS5, s1']
  refine (of_spec w1 (d.take 4) (by rw [List.length_take]; omega)).mono ?_
  rintro _ w2 ⟨rfl, rfl⟩
  have hn32 : ofN (d.take 4) < 4294967296 := by
    have := ofB_lt 4 (d.take 4) (by rw [List.length_take]; omega)
    rw [ofN_short (by rw [List.length_take]; omega)]
    omega
  rw [h1, cond_false] at hb
  generalize hn : ofN (d.take 4) = n at hb hn32 ⊢
  have e0 : ((n : Int) == 0) = decide (n = 0) := by rw [beq_dec, decide_eq_decide]; omega
  have e1 : decide ((65535 : Int) < (n : Int)) = decide (65535 < n) := by rw [decide_eq_decide]; omega
  simp only [RS0, RS1, RS2, RS3, RS4, RS5, e0]
  cases h2 : decide (n = 0) with
  | true =>
    simp only [RS0, RS1, RS2, RS3, RS4, RS5]
    exact bad w2 41 hw1' hf1 (by rw [hb, h2]; rfl)
  | false =>
  simp only [RS0, RS1, RS2, RS3, RS4, RS5, e1]
  cases h3 : decide (65535 < n) with
  | true =>
    simp only [RS0, RS1, RS2, RS3, RS4, RS5]
    exact bad w2 41 hw1' hf1 (by rw [hb, h2, h3]; rfl)
  | false =>
  rw [h2, h3, Bool.or_false, cond_false] at hb
  rw [decide_eq_false_iff_not] at h2 h3
  have e2 : IntKind.i64.wrap (8 + (n : Int)) = ((8 + n : Nat) : Int) := by rw [wrap_id] <;> omega
  have e3 : decide ((d.length : Int) < ((8 + n : Nat) : Int)) = decide (d.length < 8 + n) := by rw [decide_eq_decide]; omega
  simp only [RS0, RS1, RS2, RS3, RS4, RS5, str_size, e2, e3]
  cases h4 : decide (d.length < 8 + n) with
  | true =>
    simp only [RS0, RS1, RS2, RS3, RS4, RS5]
    exact bad w2 40 hw1' hf1 (by rw [hb, h4]; rfl)
  | false =>
  rw [h4, cond_false] at hb
  rw [decide_eq_false_iff_not] at h4
  have s2 := slS_lh (l := d) (i := 8) (j := 8 + n) (by omega) (by omega) .i64 .i64
  rw [show 8 + n - 8 = n by omega] at s2
  have s2' : slS (stv d) (some (Value.int .i64 8)) (some (iv ((8 + n : Nat) : Int))) = some (stv ((d.drop 8).take n)) := s2
  have s3 := slS_lh (l := d) (i := 4) (j := 8) (by omega) (by omega) .i64 .i64
  have s3' : slS (stv d) (some (Value.int .i64 4)) (some (Value.int .i64 8)) = some (stv ((d.drop 4).take 4)) := s3
  have hbl : ((d.drop 8).take n).length = n := by rw [List.length_take, List.length_drop]; omega
  simp only [RS0, RS1, RS2, RS3, RS4, RS5, e2, s2', s3']
  generalize hB : (d.drop 8).take n = B at hb hbl ⊢
  refine (of_spec w2 ((d.drop 4).take 4) (by rw [List.length_take]; omega)).mono ?_
  rintro _ w3 ⟨rfl, rfl⟩
  refine (sum_spec w3 B (by omega)).mono ?_
  rintro _ w4 ⟨rfl, rfl⟩
  obtain ⟨q1, q2⟩ := crc_in B
  have e4 : decide ((ofN ((d.drop 4).take 4) : Int) = (crc B : Nat)) = decide (ofN ((d.drop 4).take 4) = crc B) := by rw [decide_eq_decide]; omega
  simp only [RS0, RS1, RS2, RS3, RS4, RS5, cvI_int, q2, bne_dec, e4]
  cases h5 : decide (ofN ((d.drop 4).take 4) = crc B) with
  | false =>
    simp only [RS0, RS1, RS2, RS3, RS4, RS5, Bool.not_false]
    exact bad w4 30 hw1' hf1 (by rw [hb, h5]; rfl)
  | true =>
  rw [h5, Bool.not_true, cond_false] at hb
  simp only [RS0, RS1, RS2, RS3, RS4, RS5, Bool.not_true]
  refine (outer_spec w4 B (by omega)).mono ?_
  rintro _ w5 ⟨cs, ok, rfl, hsz, hone, hno, hyes, hf5⟩
  have hx5 := hf5.heap hw1' (fun e => e)
  have hF5 := Fmf hf1 hf5
  have hz5 := hF5.size
  simp only [RS0, RS1, RS2, RS3, RS4, RS5]
  refine New_any ?_
  intro x7 w6 hx7 hs6 hw6 hf6
  refine St_all hw6 rfl hsz hone ?_
  intro w7 hw7 hs7 hf7
  have hf57 : Fm (fun _ => False) w5 w7 := Fm.own hf6 hf7 (by rintro y rfl; omega)
  have hx7' := hf57.heap hx5 (fun e => e)
  have hF7 := Fmf hF5 hf57
  cases ok with
  | false =>
    simp only [RS0, RS1, RS2, RS3, RS4, RS5, Bool.not_false]
    exact bad w7 41 hx7' hF7 (by rw [hb, hno rfl])
  | true =>
  obtain ⟨x, vs, vm, vi, vp, vt, hx, rfl, hrow⟩ := hyes rfl
  have hbd := outer_in hx
  have hr7 := hrow.keep hf57 (fun _ e => e.elim)
  rw [hx] at hb
  simp only at hb
  simp only [RS0, RS1, RS2, RS3, RS4, RS5, Bool.not_true, cellsV_blk hw7 hsz]
  refine (checked_spec (hr7.asR hbd)).mono ?_
  rintro _ w8 ⟨rfl, hf8⟩
  have hx8 := hf8.heap hx7' (fun e => e)
  have hq8 := hf8.heap hw7 (fun e => e)
  have hF8 := Fmf hF7 hf8
  have hr8 := hr7.keep hf8 (fun _ e => e.elim)
  have hz7 := hF7.size
  simp only [RS0, RS1, RS2, RS3, RS4, RS5, bne_dec]
  cases h6 : decide ((rCheck x).2 = 0) with
  | false =>
    simp only [RS0, RS1, RS2, RS3, RS4, RS5, Bool.not_false]
    exact bad w8 41 hx8 hF8 (by rw [hb, h6]; rfl)
  | true =>
  rw [h6, Bool.true_and] at hb
  simp only [RS0, RS1, RS2, RS3, RS4, RS5, Bool.not_true, str_inj]
  cases h7 : decide ((rCheck x).1 = B) with
  | false =>
    simp only [RS0, RS1, RS2, RS3, RS4, RS5, Bool.not_false]
    exact bad w8 41 hx8 hF8 (by rw [hb, h7]; rfl)
  | true =>
  rw [h7, cond_true] at hb
  simp only [RS0, RS1, RS2, RS3, RS4, RS5, Bool.not_true, cellsV_blk hq8 hsz, e2]
  refine St_all hx8 rfl rfl hone ?_
  intro w9 hw9 hs9 hf9
  refine retRc hw9 rfl _ ⟨_, by rw [hb], ?_, Fm.own hF8 hf9 (by rintro y rfl; omega)⟩
  rw [hb]
  have hwsz : w.heap.size ≤ w4.heap.size := hf1.size
  have b9 : ∀ {e1 : TypeId} {s1 : Nat} {v1 : Value} {n1 : Nat} {y1 : List Value}, w9.ownsRow w4.heap.size e1 s1 v1 n1 y1 → w9.ownsRow w.heap.size e1 s1 v1 n1 y1 := fun hh => own_base hh hwsz
  have hr9 := hr8.keep hf9 (fun y e => by omega)
  obtain ⟨X, hX1, hX2, hX3⟩ := hr9.hi
  exact ⟨vs, vm, vi, vp, vt, rfl, ⟨b9 hr9.hs, b9 hr9.hm, ⟨X, hX1, b9 hX2, fun x hx => ⟨(hX3 x hx).1, b9 (hX3 x hx).2.1, (hX3 x hx).2.2⟩⟩, b9 hr9.hp, b9 hr9.ht⟩, hbd⟩

/-! ### What is laid is read, plainly -/
theorem body_ne (r : Rc) : 10 ≤ (rBody r).length := by
  have q : ∀ n : Int, 1 ≤ (encI n).length := fun n => by
    unfold encI
    by_cases h : 127 < (max n 0).toNat
    · rw [encN_big h]; simp
    · rw [encN_small (by omega)]; simp
  have e : rBody r = encI r.lsn ++ (encI r.prev ++ (encI r.next ++ (encI r.kind ++ (encI r.xid ++ (encI r.page ++ (encI r.slot ++ (encI r.old ++ (encI r.new ++ (encI r.redo ++ (txtB r.data ++ listB r.slots ++ listB r.more ++ encI r.imgs.length ++ r.imgs.flatMap imgB ++ encI r.pages.length ++ r.pages.flatMap prB ++ encI r.txns.length ++ r.txns.flatMap prB)))))))))) := by simp [rBody, numsB, headL]
  have h := congrArg List.length e
  simp only [List.length_append] at h
  have := q r.lsn
  have := q r.prev
  have := q r.next
  have := q r.kind
  have := q r.xid
  have := q r.page
  have := q r.slot
  have := q r.old
  have := q r.new
  have := q r.redo
  omega
theorem ofN_beN4 {n : Nat} (h : n < 4294967296) : ofN (beN 4 n) = n := by
  rw [ofN_short (by rw [beN_len]; omega), ofB_beN, Nat.mod_eq_of_lt (by omega)]
theorem rEnc_ok {r : Rc} (h : (rCheck r).2 = 0) (hl : ∀ m ∈ r.imgs, m.2.lsn ≤ 9223372036854775807) : rEnc r = (beN 4 (rBody r).length ++ beN 4 (crc (rBody r)) ++ rBody r, 0) := by
  have h2 := (rCheck_ok h hl).2.2.1
  unfold rEnc
  rw [h, h2]; rfl
theorem rEnc_err (r : Rc) : (rEnc r).2 = (rCheck r).2 := by
  unfold rEnc
  cases h : decide ((rCheck r).2 = 0) with
  | true => rw [decide_eq_true_eq] at h; rw [h]; rfl
  | false => rfl
theorem dec_head {b t : Bs} (hb : b.length ≤ 65535) : (beN 4 b.length ++ beN 4 (crc b) ++ b ++ t).take 4 = beN 4 b.length ∧ ((beN 4 b.length ++ beN 4 (crc b) ++ b ++ t).drop 4).take 4 = beN 4 (crc b) ∧ ((beN 4 b.length ++ beN 4 (crc b) ++ b ++ t).drop 8).take b.length = b ∧ (beN 4 b.length ++ beN 4 (crc b) ++ b ++ t).length = 8 + b.length + t.length := by
  have e1 : beN 4 b.length ++ beN 4 (crc b) ++ b ++ t = beN 4 b.length ++ (beN 4 (crc b) ++ (b ++ t)) := by simp
  have l1 := beN_len 4 b.length
  have l2 := beN_len 4 (crc b)
  refine ⟨by rw [e1, List.take_left' l1], by rw [e1, List.drop_left' l1, List.take_left' l2], ?_, by rw [e1]; simp only [List.length_append, l1, l2]; omega⟩
  have e2 : beN 4 b.length ++ beN 4 (crc b) ++ b ++ t = (beN 4 b.length ++ beN 4 (crc b)) ++ (b ++ t) := by simp
  rw [e2, List.drop_left' (by rw [List.length_append, l1, l2]), List.take_left]
theorem dec_back {r : Rc} (h : (rCheck r).2 = 0) (hl : ∀ m ∈ r.imgs, m.2.lsn ≤ 9223372036854775807) (t : Bs) : rDec ((rEnc r).1 ++ t) = (some r, (rEnc r).1.length, 0) := by
  obtain ⟨hg, _, hb, hlen⟩ := rCheck_ok h hl
  have hne := body_ne r
  have ho := outer_enc hg
  rw [rEnc_ok h hl]
  simp only
  generalize rBody r = b at hlen hne ho hb
  obtain ⟨h1, h2, h3, h4⟩ := dec_head (b := b) (t := t) hlen
  have h5 := (dec_head (b := b) (t := []) hlen).2.2.2
  rw [List.append_nil, List.length_nil, Nat.add_zero] at h5
  have hcl := crc_lt b
  unfold rDec
  rw [h1, h2, h4, h5, ofN_beN4 (by omega), h3, ofN_beN4 (by omega), decide_eq_false (show ¬ 8 + b.length + t.length < 8 by omega), decide_eq_false (show ¬ b.length = 0 by omega), decide_eq_false (show ¬ 65535 < b.length by omega), decide_eq_false (show ¬ 8 + b.length + t.length < 8 + b.length by omega), decide_eq_true rfl, ho]
  simp only [cond_false, Bool.or_false, Bool.not_true]
  rw [h, hb, decide_eq_true rfl, decide_eq_true rfl]
  rfl
end Go.Proofs.YthbngnlmgplijaaGreatDoor

namespace Go.Al
set_option linter.unusedVariables false
set_option linter.unusedSimpArgs false
set_option linter.unusedSectionVars false

def KpAt (w : World) (e : TypeId) (v : Value) (B : Bs) : Prop :=
  (v = .slice none 0 0 ∧ B = []) ∨ ∃ g cap cur, v = .slice (some ⟨g, 0, none⟩) B.length cap ∧ w.heap[g]? = some (.cells cur e) ∧ B.length ≤ cap ∧ cap ≤ maxLen ∧ cap ≤ cur.size ∧ cur.toList.take B.length = bc B
theorem KpAt.nil (w : World) (e : TypeId) : KpAt w e (.slice none 0 0) [] := .inl ⟨rfl, rfl⟩
theorem KpAt.of_own {w : World} {base : Nat} {e : TypeId} {v : Value} {B : Bs} {n : Nat} (h : w.ownsRow base e 1 v n (bc B)) : KpAt w e v B := by
  have hl := h.1
  rw [bc_len, Nat.mul_one] at hl
  subst hl
  rcases h.2 with ⟨rfl, h0⟩ | ⟨g, cap, cur, rfl, _, hg, hn, hc, hs, ht⟩
  · exact .inl ⟨rfl, List.eq_nil_of_length_eq_zero h0⟩
  · rw [Nat.mul_one] at hs ht
    exact .inr ⟨g, cap, cur, rfl, hg, hn, hc, by omega, ht⟩
theorem KpAt.keep {S : Nat → Prop} {w w' : World} {e : TypeId} {v : Value} {B : Bs} (h : KpAt w e v B) (hf : Fm S w w') (hs : ∀ y, v.ownBlock = some y → ¬ S y) : KpAt w' e v B := by
  rcases h with h | ⟨g, cap, cur, rfl, hg, h⟩
  · exact .inl h
  · exact .inr ⟨g, cap, cur, rfl, hf.heap hg (hs g rfl), h⟩
theorem KpAt.lt {w : World} {e : TypeId} {v : Value} {B : Bs} (h : KpAt w e v B) : ∀ y, v.ownBlock = some y → y < w.heap.size := by
  intro y hy
  rcases h with ⟨rfl, _⟩ | ⟨g, cap, cur, rfl, hg, h⟩
  · cases hy
  · cases hy; exact lt_of_heap hg
theorem KpAt.one {w : World} {e : TypeId} {v : Value} {B : Bs} (h : KpAt w e v B) : v.oneCell' = true := by
  rcases h with ⟨rfl, _⟩ | ⟨g, cap, cur, rfl, hg, h⟩ <;> rfl
theorem KpAt.lenV {w : World} {e : TypeId} {v : Value} {B : Bs} (h : KpAt w e v B) : lenV v = some (.int .i64 B.length) := by
  rcases h with ⟨rfl, rfl⟩ | ⟨g, cap, cur, rfl, hg, h⟩ <;> rfl
theorem KpAt.neT {w : World} {e t : TypeId} {v : Value} {B : Bs} (h : KpAt w e v B) {x : Nat} {cs : Array Value} {fz : Nat × Nat} (hx : w.heap[x]? = some (.cells cs t fz)) (hne : e ≠ t) : v.ownBlock ≠ some x := by
  intro hk
  rcases h with ⟨rfl, _⟩ | ⟨g, cap, cur, rfl, hg, h⟩
  · cases hk
  · cases hk
    rw [hx] at hg
    cases hg
    exact hne rfl
theorem KpAt.neM {w : World} {e : TypeId} {v : Value} {B : Bs} (h : KpAt w e v B) {x : Nat} {es : Array MapEntry} {c : Nat} (hx : w.heap[x]? = some (.map es c)) : v.ownBlock ≠ some x := by
  intro hk
  rcases h with ⟨rfl, _⟩ | ⟨g, cap, cur, rfl, hg, h⟩
  · cases hk
  · cases hk
    rw [hx] at hg
    cases hg
theorem KpAt.app {P : Program} {t e s : TypeId} (B : ByteT P t e s) {w : World} {v : Value} {L : Bs} (h : KpAt w e v L) (x : Bs) (ty : TypeId) (hl : L.length + x.length ≤ 100000000000) :
    ∃ v' w', (Builtin.append_ #[t, s] ty #[v, stv x]).run P w = .ok v' w' ∧ KpAt w' e v' (L ++ x) ∧ Fm (fun y => v.ownBlock = some y) w w' ∧ (∀ y, v'.ownBlock = some y → v.ownBlock = some y ∨ w.heap.size ≤ y) := by
  rcases h with ⟨rfl, rfl⟩ | ⟨g, cap, cur, rfl, hg, hnc, hcm, hcs, htake⟩
  · obtain ⟨v', w', hr, ho, hf, _⟩ := append_text B (n := 0) (l := []) (World.ownsRow_nil w w.heap.size e 1) x ty (by simp at hl; omega) (Nat.le_refl _)
    refine ⟨v', w', hr, KpAt.of_own ho, hf, fun y hy => .inr ?_⟩
    rcases ho.2 with ⟨rfl, _⟩ | ⟨g, cap, cur, rfl, hb, _⟩
    · cases hy
    · cases hy; exact hb
  obtain ⟨i, h1, h2, h3, h4⟩ := B.info
  have hsx : Lib.strCells (str x) = bc x := rfl
  have hxz : (str x).size = x.length := str_size x
  by_cases hroom : L.length + x.length ≤ cap
  · have hf := Lib.run_firstCells_string (P := P) w 1 (str x)
    rw [hsx, hxz] at hf
    have hst := store_ahead P g L.length e (0, 0) (bc x) 0 cur w hg (.inl rfl) (by rw [bc_len]; omega) (bc_one x)
    simp only [Nat.add_zero, bc_len] at hst
    have hr : (Builtin.append_ #[t, s] ty #[.slice (some ⟨g, 0, none⟩) L.length cap, stv x]).run P w = .ok (.slice (some ⟨g, 0, none⟩) (L.length + x.length) cap) (w.setRow g (cur.toList.take L.length ++ bc x ++ cur.toList.drop (L.length + x.length)).toArray) := by
      simp [Builtin.append_, run_underlying B.sl, run_underlying B.st, sizeOf, typeInfo, h1, h3, Builtin.lenOf, str_size, hroom, hf, Addr.add_lit, hst]
    refine ⟨_, _, hr, .inr ⟨g, cap, _, by rw [List.length_append], setRow_heap w g cur _ e _ hg, by rw [List.length_append]; exact hroom, hcm, ?_, ?_⟩, ⟨rfl, rfl, rfl, by simp, fun k _ hk => setRow_other w g k _ (fun e => hk (by rw [e]; rfl))⟩, fun y hy => .inl hy⟩
    · simp only [List.size_toArray, List.length_append, List.length_take, List.length_drop, Array.length_toList, bc_len]
      omega
    · rw [htake, ← bc_append, List.take_append_of_le_length (by rw [bc_len]; exact Nat.le_refl _), List.take_of_length_le (by rw [bc_len]; exact Nat.le_refl _)]
  · have holds : ∀ j u, (bc L)[j]? = some u → w.cell? ((⟨g, 0, none⟩ : Addr).add j) = some u := by
      intro j u hj
      rw [← htake, List.getElem?_take] at hj
      split at hj
      · rw [Addr.add_lit, cell_at hg]
        simpa using hj
      · cases hj
    have hr := Lib.run_append_grow_string (P := P) w t s ty e i (.int .u8 0) B.sl B.st h1 h2 ⟨g, 0, none⟩ L.length cap (bc L) (by rw [bc_len, h3, Nat.mul_one]) holds (str x) (by rw [hxz]; omega) (by rw [hxz]; omega) (by rw [hxz, h4]; exact growslice_fits (by omega) (by omega))
    rw [hxz, hsx] at hr
    have hge := grownCap_ge w (L.length + x.length) cap e
    have hcm' : grownCap w (L.length + x.length) cap e ≤ maxLen := grownCap_le_maxLen w (L.length + x.length) cap e (by unfold maxLen; omega)
    refine ⟨_, _, hr, .inr ⟨w.heap.size, _, _, by rw [List.length_append], alloc_new w.drew _, by rw [List.length_append]; exact hge, hcm', ?_, ?_⟩, ⟨rfl, rfl, rfl, by simp, fun k hk _ => (Fm.alloc (fun _ => False) w.drew _).block k hk (fun e => e)⟩, fun y hy => .inr (by cases hy; exact Nat.le_refl _)⟩
    · have hz1 : (Value.int IntKind.u8 0).cells.size = 1 := rfl
      simp only [Array.size_append, List.size_toArray, size_zeroCells, hz1, bc_len]
      omega
    · simp only [Array.toList_append, List.append_assoc]
      rw [← List.append_assoc, ← bc_append, List.take_append_of_le_length (by rw [bc_len]; exact Nat.le_refl _), List.take_of_length_le (by rw [bc_len]; exact Nat.le_refl _)]
theorem KpAt.cut {P : Program} {t e s : TypeId} (B : ByteT P t e s) {w : World} {v : Value} {L : Bs} {e' : TypeId} (h : KpAt w e' v L) {i j : Nat} (hij : i ≤ j) (hj : j ≤ L.length) :
    ∃ u, slV 1 v (some (.int .i64 i)) (some (.int .i64 j)) none = some u ∧ (convert t s u).run P w = .ok (stv ((L.drop i).take (j - i))) w := by
  rcases h with ⟨rfl, rfl⟩ | ⟨g, cap, cur, rfl, hg, hnc, hcm, hcs, htake⟩
  · simp at hj
    subst hj
    obtain rfl : i = 0 := by omega
    exact ⟨.slice none 0 0, rfl, conv_nil B w 0 0⟩
  · obtain ⟨o', h1, h2, h3, _⟩ := slV_lh (g := g) (o := 0) (n := L.length) (c := cap) hij (by omega) .i64 .i64
    refine ⟨_, h1, ?_⟩
    have hx : BX w g e' L := ⟨cur, _, hg, htake, by omega, .inl rfl⟩
    by_cases hi : i < cap
    · rw [h2 hi, Nat.zero_add]
      exact hx.conv B (by omega) _
    · have : j - i = 0 := by omega
      rw [this]
      have := hx.conv (P := P) B (o := o') (n := 0) (by omega) (cap - i)
      rw [List.take_zero] at this ⊢
      exact this
end Go.Al
