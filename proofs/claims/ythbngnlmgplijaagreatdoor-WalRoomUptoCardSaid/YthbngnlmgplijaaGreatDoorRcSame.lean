/- Whether two records are the same: the program's. -/
import Derived.Test.YthbngnlmgplijaaGreatDoorRcDecS
import Derived.Laws.StructEq
namespace Go.Proofs.YthbngnlmgplijaaGreatDoor
open Go.Al Go.Proofs
set_option linter.unusedVariables false
set_option linter.unusedSimpArgs false
set_option linter.unusedSectionVars false
set_option maxRecDepth 100000

theorem neq96 (o1 o2 : Operand) (p q : Int × Int) (w : World) : (do eqGuard .neq 120 o1 o2 (.agg (pc2 p).toArray) (.agg (pc2 q).toArray); binOp .neq 120 (.agg (pc2 p).toArray) (.agg (pc2 q).toArray) : Sem Value).run Tryz.prog w = .ok (.bool (!decide (p = q))) w := by
  have hS : Tryz.prog.underlying 120 = some (.struct (Tryz.prog.fieldsOf 120)) := by kernel_rfl
  have hp : Tryz.prog.stoodInHeld 120 = false := by kernel_rfl
  have hm : Tryz.prog.eqGuardType Tryz.prog.depth 120 = false := by kernel_rfl
  have u3 := Tryz.underlying3
  rw [Sem.run_bind, run_eqGuard_agg w .neq 120 o1 o2 _ _ hm, Result.andThen_ok, run_neq_struct, show (10000 : Nat) = 9999 + 1 from rfl, run_equalIn_agg w 9999 120 _ _ hS hp]
  have a3 := Tryz.isAgg3
  have z3 := Tryz.sizeOf3
  simp only [Program.fieldsOf, Tryz.underlying120, pc2]
  obtain ⟨p1, p2⟩ := p
  obtain ⟨q1, q2⟩ := q
  simp only
  go_simp
  by_cases h1 : p1 = q1 <;> by_cases h2 : p2 = q2 <;> simp [h1, h2]

theorem neq99 (o1 o2 : Operand) (p q : Int × Int) (w : World) : (do eqGuard .neq 122 o1 o2 (.agg (pc2 p).toArray) (.agg (pc2 q).toArray); binOp .neq 122 (.agg (pc2 p).toArray) (.agg (pc2 q).toArray) : Sem Value).run Tryz.prog w = .ok (.bool (!decide (p = q))) w := by
  have hS : Tryz.prog.underlying 122 = some (.struct (Tryz.prog.fieldsOf 122)) := by kernel_rfl
  have hp : Tryz.prog.stoodInHeld 122 = false := by kernel_rfl
  have hm : Tryz.prog.eqGuardType Tryz.prog.depth 122 = false := by kernel_rfl
  have u3 := Tryz.underlying3
  rw [Sem.run_bind, run_eqGuard_agg w .neq 122 o1 o2 _ _ hm, Result.andThen_ok, run_neq_struct, show (10000 : Nat) = 9999 + 1 from rfl, run_equalIn_agg w 9999 122 _ _ hS hp]
  have a3 := Tryz.isAgg3
  have z3 := Tryz.sizeOf3
  simp only [Program.fieldsOf, Tryz.underlying122, pc2]
  obtain ⟨p1, p2⟩ := p
  obtain ⟨q1, q2⟩ := q
  simp only
  go_simp
  by_cases h1 : p1 = q1 <;> by_cases h2 : p2 = q2 <;> simp [h1, h2]

theorem take_step {α : Type} {A B : List α} {i : Nat} {x y : α} (h : A.take i = B.take i) (ha : A[i]? = some x) (hb : B[i]? = some y) (e : x = y) : A.take (i + 1) = B.take (i + 1) := by
  rw [List.take_add_one, List.take_add_one, h, ha, hb, e]
theorem ne_at {α : Type} [DecidableEq α] {A B : List α} {i : Nat} {x y : α} (ha : A[i]? = some x) (hb : B[i]? = some y) (e : x ≠ y) : decide (A = B) = false := by
  rw [decide_eq_false_iff_not]
  rintro rfl
  rw [ha] at hb
  exact e (Option.some.inj hb)
theorem ne_len {α : Type} [DecidableEq α] {A B : List α} (h : A.length ≠ B.length) : decide (A = B) = false := by
  rw [decide_eq_false_iff_not]
  rintro rfl
  exact h rfl
theorem eq_end {α : Type} [DecidableEq α] {A B : List α} (h : A.length = B.length) (ht : A.take A.length = B.take A.length) : decide (A = B) = true := by
  rw [decide_eq_true_eq]
  rw [List.take_length, h, List.take_length] at ht
  exact ht

set_option maxHeartbeats 2000000 in
theorem eqI_spec {w : World} {va vb : Value} {A B : List (Int)} (hA : CellsAt w va A.length 1 (A.map iv)) (hB : CellsAt w vb B.length 1 (B.map iv)) : Cl Tryz.prog 167 [va, vb] w fun v w' => v = .bool (decide (A = B)) ∧ Fm (fun _ => False) w w' := by
  have hlt := hA.lt
  unfold maxLen at hlt
  refine c167 ?_; unfold T167
  have dl : decide ((A.length : Int) = (B.length : Int)) = decide (A.length = B.length) := by rw [decide_eq_decide]; omega
  simp only [RS0, RS1, RS2, RS3, RS4, RS5, hA.lenV, hB.lenV, bne_dec, dl]
  cases hd : decide (A.length = B.length) with
  | false =>
    rw [decide_eq_false_iff_not] at hd
    rw [ne_len hd]
    simp only [RS0, RS1, RS2, RS3, RS4, RS5, Bool.not_false]
    exact ⟨(by trivial), Fm.refl _ _⟩
  | true =>
  rw [decide_eq_true_eq] at hd
  simp only [RS0, RS1, RS2, RS3, RS4, RS5, Bool.not_true, hA.lenV]
  refine ⟨fun vl w2 => ∃ i : Nat, vl = [iv i] ∧ i ≤ A.length ∧ A.take i = B.take i ∧ Fm (fun _ => False) w w2, fun vl _ => (A.length - nth vl 0).toNat, ⟨0, rfl, by omega, by simp, Fm.refl _ _⟩, ?_⟩
  rintro _ w2 ivv ⟨i, hvl, hi, ht, hF⟩
  cases hvl
  by_cases hl : i < A.length
  · have d1 : decide ((i : Int) < (A.length : Int)) = true := by rw [decide_eq_true_eq]; omega
    have e1 : IntKind.i64.wrap ((i : Int) + 1) = ((i + 1 : Nat) : Int) := by rw [wrap_id] <;> omega
    have hx : A[i]? = some A[i] := List.getElem?_eq_getElem hl
    have hy : B[i]? = some B[i] := List.getElem?_eq_getElem (by omega)
    generalize A[i] = x at hx
    generalize B[i] = y at hy
    have hFd := Fmf hF (Fm.drew _ w2)
    obtain ⟨ad, h1, _, h2⟩ := (hA.keep hF (fun _ _ e => e)).at1 (i := i) (x := iv x) (by rw [List.getElem?_map, hx]; rfl) .i64
    obtain ⟨ad', h3, _, h4⟩ := (hB.keep hF (fun _ _ e => e)).at1 (i := i) (x := iv y) (by rw [List.getElem?_map, hy]; rfl) .i64
    simp only [RS0, RS1, RS2, RS3, RS4, RS5, d1, h1, h2, h3, h4, bne_dec, true_and]
    cases hxy : decide (x = y) with
    | false =>
      rw [decide_eq_false_iff_not] at hxy
      rw [ne_at hx hy hxy]
      simp only [RS0, RS1, RS2, RS3, RS4, RS5, Bool.not_false]
      exact ⟨(by trivial), hFd⟩
    | true =>
      rw [decide_eq_true_eq] at hxy
      simp only [RS0, RS1, RS2, RS3, RS4, RS5, Bool.not_true, e1]
      exact ⟨⟨i + 1, rfl, by omega, take_step ht hx hy hxy, hFd⟩, by simp only [nth_0]; omega⟩
  · have hie : i = A.length := by omega
    subst hie
    have d1 : decide (((A.length : Nat) : Int) < (A.length : Int)) = false := by simp
    rw [eq_end hd ht]
    simp only [RS0, RS1, RS2, RS3, RS4, RS5, d1]
    exact ⟨(by trivial), hF⟩

set_option maxHeartbeats 2000000 in
theorem eqO_spec {w : World} {va vb : Value} {A B : List (Int × Int)} (hA : CellsAt w va A.length 2 (A.flatMap pc2)) (hB : CellsAt w vb B.length 2 (B.flatMap pc2)) : Cl Tryz.prog 171 [va, vb] w fun v w' => v = .bool (decide (A = B)) ∧ Fm (fun _ => False) w w' := by
  have hlt := hA.lt
  unfold maxLen at hlt
  refine c171 ?_; unfold T171
  have dl : decide ((A.length : Int) = (B.length : Int)) = decide (A.length = B.length) := by rw [decide_eq_decide]; omega
  simp only [RS0, RS1, RS2, RS3, RS4, RS5, hA.lenV, hB.lenV, bne_dec, dl]
  cases hd : decide (A.length = B.length) with
  | false =>
    rw [decide_eq_false_iff_not] at hd
    rw [ne_len hd]
    simp only [RS0, RS1, RS2, RS3, RS4, RS5, Bool.not_false]
    exact ⟨(by trivial), Fm.refl _ _⟩
  | true =>
  rw [decide_eq_true_eq] at hd
  simp only [RS0, RS1, RS2, RS3, RS4, RS5, Bool.not_true, hA.lenV]
  refine ⟨fun vl w2 => ∃ i : Nat, vl = [iv i] ∧ i ≤ A.length ∧ A.take i = B.take i ∧ Fm (fun _ => False) w w2, fun vl _ => (A.length - nth vl 0).toNat, ⟨0, rfl, by omega, by simp, Fm.refl _ _⟩, ?_⟩
  rintro _ w2 ivv ⟨i, hvl, hi, ht, hF⟩
  cases hvl
  by_cases hl : i < A.length
  · have d1 : decide ((i : Int) < (A.length : Int)) = true := by rw [decide_eq_true_eq]; omega
    have e1 : IntKind.i64.wrap ((i : Int) + 1) = ((i + 1 : Nat) : Int) := by rw [wrap_id] <;> omega
    have hx : A[i]? = some A[i] := List.getElem?_eq_getElem hl
    have hy : B[i]? = some B[i] := List.getElem?_eq_getElem (by omega)
    generalize A[i] = x at hx
    generalize B[i] = y at hy
    have hFd := Fmf hF (Fm.drew _ w2)
    obtain ⟨ad, h1, h2, _⟩ := cells_ld pc2_len (by omega) (hA.keep hF (fun _ _ e => e)) hx
    obtain ⟨ad', h3, h4, _⟩ := cells_ld pc2_len (by omega) (hB.keep hF (fun _ _ e => e)) hy
    have h2' := cellsV_keep h2 (Fm.drew (fun _ => False) w2) (fun e => e)
    have h4' := cellsV_keep h4 (Fm.drew (fun _ => False) w2) (fun e => e)
    simp only [RS0, RS1, RS2, RS3, RS4, RS5, d1, h1, h2, h2', h3, h4, h4', true_and]
    refine RunS_ok (neq96 _ _ x y _) ?_
    simp only [RS0, RS1, RS2, RS3, RS4, RS5, true_and]
    cases hxy : decide (x = y) with
    | false =>
      rw [decide_eq_false_iff_not] at hxy
      rw [ne_at hx hy hxy]
      simp only [RS0, RS1, RS2, RS3, RS4, RS5, Bool.not_false]
      exact ⟨(by trivial), hFd⟩
    | true =>
      rw [decide_eq_true_eq] at hxy
      simp only [RS0, RS1, RS2, RS3, RS4, RS5, Bool.not_true, e1]
      exact ⟨⟨i + 1, rfl, by omega, take_step ht hx hy hxy, hFd⟩, by simp only [nth_0]; omega⟩
  · have hie : i = A.length := by omega
    subst hie
    have d1 : decide (((A.length : Nat) : Int) < (A.length : Int)) = false := by simp
    rw [eq_end hd ht]
    simp only [RS0, RS1, RS2, RS3, RS4, RS5, d1]
    exact ⟨(by trivial), hF⟩

set_option maxHeartbeats 2000000 in
theorem eqB_spec {w : World} {va vb : Value} {A B : List (Int × Int)} (hA : CellsAt w va A.length 2 (A.flatMap pc2)) (hB : CellsAt w vb B.length 2 (B.flatMap pc2)) : Cl Tryz.prog 172 [va, vb] w fun v w' => v = .bool (decide (A = B)) ∧ Fm (fun _ => False) w w' := by
  have hlt := hA.lt
  unfold maxLen at hlt
  refine c172 ?_; unfold T172
  have dl : decide ((A.length : Int) = (B.length : Int)) = decide (A.length = B.length) := by rw [decide_eq_decide]; omega
  simp only [RS0, RS1, RS2, RS3, RS4, RS5, hA.lenV, hB.lenV, bne_dec, dl]
  cases hd : decide (A.length = B.length) with
  | false =>
    rw [decide_eq_false_iff_not] at hd
    rw [ne_len hd]
    simp only [RS0, RS1, RS2, RS3, RS4, RS5, Bool.not_false]
    exact ⟨(by trivial), Fm.refl _ _⟩
  | true =>
  rw [decide_eq_true_eq] at hd
  simp only [RS0, RS1, RS2, RS3, RS4, RS5, Bool.not_true, hA.lenV]
  refine ⟨fun vl w2 => ∃ i : Nat, vl = [iv i] ∧ i ≤ A.length ∧ A.take i = B.take i ∧ Fm (fun _ => False) w w2, fun vl _ => (A.length - nth vl 0).toNat, ⟨0, rfl, by omega, by simp, Fm.refl _ _⟩, ?_⟩
  rintro _ w2 ivv ⟨i, hvl, hi, ht, hF⟩
  cases hvl
  by_cases hl : i < A.length
  · have d1 : decide ((i : Int) < (A.length : Int)) = true := by rw [decide_eq_true_eq]; omega
    have e1 : IntKind.i64.wrap ((i : Int) + 1) = ((i + 1 : Nat) : Int) := by rw [wrap_id] <;> omega
    have hx : A[i]? = some A[i] := List.getElem?_eq_getElem hl
    have hy : B[i]? = some B[i] := List.getElem?_eq_getElem (by omega)
    generalize A[i] = x at hx
    generalize B[i] = y at hy
    have hFd := Fmf hF (Fm.drew _ w2)
    obtain ⟨ad, h1, h2, _⟩ := cells_ld pc2_len (by omega) (hA.keep hF (fun _ _ e => e)) hx
    obtain ⟨ad', h3, h4, _⟩ := cells_ld pc2_len (by omega) (hB.keep hF (fun _ _ e => e)) hy
    have h2' := cellsV_keep h2 (Fm.drew (fun _ => False) w2) (fun e => e)
    have h4' := cellsV_keep h4 (Fm.drew (fun _ => False) w2) (fun e => e)
    simp only [RS0, RS1, RS2, RS3, RS4, RS5, d1, h1, h2, h2', h3, h4, h4', true_and]
    refine RunS_ok (neq99 _ _ x y _) ?_
    simp only [RS0, RS1, RS2, RS3, RS4, RS5, true_and]
    cases hxy : decide (x = y) with
    | false =>
      rw [decide_eq_false_iff_not] at hxy
      rw [ne_at hx hy hxy]
      simp only [RS0, RS1, RS2, RS3, RS4, RS5, Bool.not_false]
      exact ⟨(by trivial), hFd⟩
    | true =>
      rw [decide_eq_true_eq] at hxy
      simp only [RS0, RS1, RS2, RS3, RS4, RS5, Bool.not_true, e1]
      exact ⟨⟨i + 1, rfl, by omega, take_step ht hx hy hxy, hFd⟩, by simp only [nth_0]; omega⟩
  · have hie : i = A.length := by omega
    subst hie
    have d1 : decide (((A.length : Nat) : Int) < (A.length : Int)) = false := by simp
    rw [eq_end hd ht]
    simp only [RS0, RS1, RS2, RS3, RS4, RS5, d1]
    exact ⟨(by trivial), hF⟩

set_option maxHeartbeats 1000000 in
theorem eqim1 {w : World} {m n : Int} {p q : Pg} {u v : Value} (hp : PgAs w (pcs p u) p) (hq : PgAs w (pcs q v) q) : Cl Tryz.prog 168 [.agg (imC (m, p, u)).toArray, .agg (imC (n, q, v)).toArray] w fun r w' => r = .bool (decide ((m, p) = (n, q))) ∧ Fm (fun _ => False) w w' := by
  refine c168 ?_; unfold T168
  refine New_any ?_
  intro x1 w1 hx1 hs1 hw1 hf1
  refine New_any ?_
  intro x2 w2 hx2 hs2 hw2 hf2
  have hw12 : w2.heap[x1]? = some (.cells (imC (m, p, u)).toArray 118) := hf2.heap hw1 (fun e => e)
  have hw2' : w2.heap[x2]? = some (.cells (imC (n, q, v)).toArray 118) := hw2
  have c1 : w2.cell? ⟨x1, 0, none⟩ = some (iv m) := by rw [cell_at hw12]; rfl
  have c2 : w2.cell? ⟨x2, 0, none⟩ = some (iv n) := by rw [cell_at hw2']; rfl
  have hF2 := Fmf hf1 hf2
  simp only [RS0, RS1, RS2, RS3, RS4, RS5, c1, c2, beq_dec]
  cases h0 : decide (m = n) with
  | false =>
    rw [decide_eq_false_iff_not] at h0
    have : decide ((m, p) = (n, q)) = false := by rw [decide_eq_false_iff_not]; rintro e; cases e; exact h0 rfl
    rw [this]
    simp only [RS0, RS1, RS2, RS3, RS4, RS5]
    exact ⟨(by trivial), hF2⟩
  | true =>
    rw [decide_eq_true_eq] at h0
    subst h0
    simp only [RS0, RS1, RS2, RS3, RS4, RS5, im_body hw12, im_body hw2']
    refine (same_spec (hp.keep hF2) (hq.keep hF2)).mono ?_
    rintro _ w3 ⟨rfl, hf3⟩
    try simp only [RS0, RS1, RS2, RS3, RS4, RS5]
    refine ⟨?_, Fmf hF2 hf3⟩
    congr 1
    rw [decide_eq_decide]
    simp
set_option maxHeartbeats 2000000 in
theorem eqIm_spec {w : World} {va vb : Value} {A B : List (Int × Pg)} (hA : ImAs w va A) (hB : ImAs w vb B) (hlt : A.length ≤ 9000000000) : Cl Tryz.prog 170 [va, vb, .func (.func 168) #[] #[]] w fun v w' => v = .bool (decide (A = B)) ∧ Fm (fun _ => False) w w' := by
  refine c170 ?_; unfold T170
  have dl : decide ((A.length : Int) = (B.length : Int)) = decide (A.length = B.length) := by rw [decide_eq_decide]; omega
  simp only [RS0, RS1, RS2, RS3, RS4, RS5, hA.lenV, hB.lenV, bne_dec, dl]
  cases hd : decide (A.length = B.length) with
  | false =>
    rw [decide_eq_false_iff_not] at hd
    rw [ne_len hd]
    simp only [RS0, RS1, RS2, RS3, RS4, RS5, Bool.not_false]
    exact ⟨(by trivial), Fm.refl _ _⟩
  | true =>
  rw [decide_eq_true_eq] at hd
  simp only [RS0, RS1, RS2, RS3, RS4, RS5, Bool.not_true, hA.lenV]
  refine ⟨fun vl w2 => ∃ i : Nat, vl = [iv i] ∧ i ≤ A.length ∧ A.take i = B.take i ∧ Fm (fun _ => False) w w2, fun vl _ => (A.length - nth vl 0).toNat, ⟨0, rfl, by omega, by simp, Fm.refl _ _⟩, ?_⟩
  rintro _ w2 ivv ⟨i, hvl, hi, ht, hF⟩
  cases hvl
  by_cases hl : i < A.length
  · have d1 : decide ((i : Int) < (A.length : Int)) = true := by rw [decide_eq_true_eq]; omega
    have e1 : IntKind.i64.wrap ((i : Int) + 1) = ((i + 1 : Nat) : Int) := by rw [wrap_id] <;> omega
    have hx : A[i]? = some A[i] := List.getElem?_eq_getElem hl
    have hy : B[i]? = some B[i] := List.getElem?_eq_getElem (by omega)
    generalize A[i] = x at hx
    generalize B[i] = y at hy
    obtain ⟨ad, u, h1, h2, hu, hpu⟩ := (hA.keep hF).ld hx
    simp only [RS0, RS1, RS2, RS3, RS4, RS5, d1, h1, h2]
    refine New_any ?_
    intro x3 w3 hx3 hs3 hw3 hf3
    have one : ∀ {p : Pg} {u : Value} {m : Int}, u.oneCell' = true → ∀ q ∈ (imC (m, p, u)), q.oneCell' = true := fun hu q hq => by
      simp [imC, pcs] at hq
      rcases hq with rfl | rfl | rfl | rfl | rfl | rfl | rfl <;> first | rfl | exact hu
    refine St_all hw3 rfl (imC_len _) (one hu) ?_
    intro w4 hw4 hs4 hf4
    have hf24 : Fm (fun _ => False) w2 w4 := Fm.own hf3 hf4 (by rintro y rfl; omega)
    have hF4 := Fmf hF hf24
    obtain ⟨ad', v, h3, h4, hv, hqv⟩ := (hB.keep hF4).ld hy
    simp only [RS0, RS1, RS2, RS3, RS4, RS5, h3, h4]
    refine New_any ?_
    intro x5 w5 hx5 hs5 hw5 hf5
    refine St_all hw5 rfl (imC_len _) (one hv) ?_
    intro w6 hw6 hs6 hf6
    have hf46 : Fm (fun _ => False) w4 w6 := Fm.own hf5 hf6 (by rintro y rfl; omega)
    have hw46 := hf46.heap hw4 (fun e => e)
    simp only [RS0, RS1, RS2, RS3, RS4, RS5, cellsV_blk hw46 (imC_len _), cellsV_blk hw6 (imC_len _)]
    refine ClV_func (by kernel_rfl) ?_
    refine (eqim1 ((hpu.keep hf24).keep hf46) (hqv.keep hf46)).mono ?_
    rintro _ w7 ⟨rfl, hf7⟩
    have hF7 := Fmf hF4 (Fmf hf46 hf7)
    cases hxy : decide ((x.1, x.2) = (y.1, y.2)) with
    | false =>
      rw [decide_eq_false_iff_not] at hxy
      rw [ne_at hx hy hxy]
      simp only [RS0, RS1, RS2, RS3, RS4, RS5, Bool.not_false]
      exact ⟨(by trivial), hF7⟩
    | true =>
      rw [decide_eq_true_eq] at hxy
      simp only [RS0, RS1, RS2, RS3, RS4, RS5, Bool.not_true, e1]
      exact ⟨⟨i + 1, rfl, by omega, take_step ht hx hy hxy, hF7⟩, by simp only [nth_0]; omega⟩
  · have hie : i = A.length := by omega
    subst hie
    have d1 : decide (((A.length : Nat) : Int) < (A.length : Int)) = false := by simp
    rw [eq_end hd ht]
    simp only [RS0, RS1, RS2, RS3, RS4, RS5, d1]
    exact ⟨(by trivial), hF⟩

theorem rc_ne {α : Type} {a b : Rc} (f : Rc → α) (h : f a ≠ f b) : decide (a = b) = false := by
  rw [decide_eq_false_iff_not]
  rintro rfl
  exact h rfl
set_option maxHeartbeats 8000000 in
theorem rcsame_spec {w : World} {ca cb : Array Value} {a b : Rc} (ha : RcAs w ca a) (hb : RcAs w cb b) : Cl Tryz.prog 91 [.agg ca, .agg cb] w fun v w' => v = .bool (decide (a = b)) ∧ Fm (fun _ => False) w w' := by
  obtain ⟨as_, am, ai, ap, at_, hca, _, has, ham, hai, hap, hat⟩ := ha.ex
  obtain ⟨bs_, bm, bi, bp, bt, hcb, _, hbs, hbm, hbi, hbp, hbt⟩ := hb.ex
  have hbulk := ha.bulk
  refine c91 ?_; unfold T91
  refine New_any ?_
  intro x1 w1 hx1 hs1 hw1 hf1
  refine New_any ?_
  intro x2 w2 hx2 hs2 hw2 hf2
  have hRa : RB w2 x1 a as_ am ai ap at_ := ⟨by rw [← hca]; exact hf2.heap hw1 (fun e => e)⟩
  have hRb : RB w2 x2 b bs_ bm bi bp bt := ⟨by rw [← hcb]; exact hw2⟩
  have hF2 := Fmf hf1 hf2
  simp only [RS0, RS1, RS2, RS3, RS4, RS5, Bool.not_true, hRa.c0, hRb.c0, bne_dec]
  cases g0 : decide (a.lsn = b.lsn) with
  | false =>
    rw [decide_eq_false_iff_not] at g0
    rw [rc_ne Rc.lsn g0]
    simp only [RS0, RS1, RS2, RS3, RS4, RS5, Bool.not_false]
    exact ⟨(by trivial), hF2⟩
  | true =>
  simp only [RS0, RS1, RS2, RS3, RS4, RS5, Bool.not_true, hRa.c1, hRb.c1, bne_dec]
  cases g1 : decide (a.prev = b.prev) with
  | false =>
    rw [decide_eq_false_iff_not] at g1
    rw [rc_ne Rc.prev g1]
    simp only [RS0, RS1, RS2, RS3, RS4, RS5, Bool.not_false]
    exact ⟨(by trivial), hF2⟩
  | true =>
  simp only [RS0, RS1, RS2, RS3, RS4, RS5, Bool.not_true, hRa.c2, hRb.c2, bne_dec]
  cases g2 : decide (a.next = b.next) with
  | false =>
    rw [decide_eq_false_iff_not] at g2
    rw [rc_ne Rc.next g2]
    simp only [RS0, RS1, RS2, RS3, RS4, RS5, Bool.not_false]
    exact ⟨(by trivial), hF2⟩
  | true =>
  simp only [RS0, RS1, RS2, RS3, RS4, RS5, Bool.not_true, hRa.c3, hRb.c3, bne_dec]
  cases g3 : decide (a.kind = b.kind) with
  | false =>
    rw [decide_eq_false_iff_not] at g3
    rw [rc_ne Rc.kind g3]
    simp only [RS0, RS1, RS2, RS3, RS4, RS5, Bool.not_false]
    exact ⟨(by trivial), hF2⟩
  | true =>
  simp only [RS0, RS1, RS2, RS3, RS4, RS5, Bool.not_true, hRa.c4, hRb.c4, bne_dec]
  cases g4 : decide (a.xid = b.xid) with
  | false =>
    rw [decide_eq_false_iff_not] at g4
    rw [rc_ne Rc.xid g4]
    simp only [RS0, RS1, RS2, RS3, RS4, RS5, Bool.not_false]
    exact ⟨(by trivial), hF2⟩
  | true =>
  simp only [RS0, RS1, RS2, RS3, RS4, RS5, Bool.not_true, hRa.c5, hRb.c5, bne_dec]
  cases g5 : decide (a.page = b.page) with
  | false =>
    rw [decide_eq_false_iff_not] at g5
    rw [rc_ne Rc.page g5]
    simp only [RS0, RS1, RS2, RS3, RS4, RS5, Bool.not_false]
    exact ⟨(by trivial), hF2⟩
  | true =>
  simp only [RS0, RS1, RS2, RS3, RS4, RS5, Bool.not_true, hRa.c6, hRb.c6, bne_dec]
  cases g6 : decide (a.slot = b.slot) with
  | false =>
    rw [decide_eq_false_iff_not] at g6
    rw [rc_ne Rc.slot g6]
    simp only [RS0, RS1, RS2, RS3, RS4, RS5, Bool.not_false]
    exact ⟨(by trivial), hF2⟩
  | true =>
  simp only [RS0, RS1, RS2, RS3, RS4, RS5, Bool.not_true, hRa.c7, hRb.c7, bne_dec]
  cases g7 : decide (a.old = b.old) with
  | false =>
    rw [decide_eq_false_iff_not] at g7
    rw [rc_ne Rc.old g7]
    simp only [RS0, RS1, RS2, RS3, RS4, RS5, Bool.not_false]
    exact ⟨(by trivial), hF2⟩
  | true =>
  simp only [RS0, RS1, RS2, RS3, RS4, RS5, Bool.not_true, hRa.c8, hRb.c8, bne_dec]
  cases g8 : decide (a.new = b.new) with
  | false =>
    rw [decide_eq_false_iff_not] at g8
    rw [rc_ne Rc.new g8]
    simp only [RS0, RS1, RS2, RS3, RS4, RS5, Bool.not_false]
    exact ⟨(by trivial), hF2⟩
  | true =>
  simp only [RS0, RS1, RS2, RS3, RS4, RS5, Bool.not_true, hRa.c9, hRb.c9, bne_dec]
  cases g9 : decide (a.redo = b.redo) with
  | false =>
    rw [decide_eq_false_iff_not] at g9
    rw [rc_ne Rc.redo g9]
    simp only [RS0, RS1, RS2, RS3, RS4, RS5, Bool.not_false]
    exact ⟨(by trivial), hF2⟩
  | true =>
  simp only [RS0, RS1, RS2, RS3, RS4, RS5, Bool.not_true, hRa.c10, hRb.c10, str_inj]
  cases g10 : decide (a.data = b.data) with
  | false =>
    rw [decide_eq_false_iff_not] at g10
    rw [rc_ne Rc.data g10]
    simp only [RS0, RS1, RS2, RS3, RS4, RS5, Bool.not_false]
    exact ⟨(by trivial), hF2⟩
  | true =>
  simp only [RS0, RS1, RS2, RS3, RS4, RS5, Bool.not_true, hRa.c11, hRb.c11]
  refine (eqI_spec (has.keep hF2 (fun _ _ e => e)) (hbs.keep hF2 (fun _ _ e => e))).mono ?_
  rintro _ w3 ⟨rfl, hf3⟩
  have hF3 := Fmf hF2 hf3
  have hRa3 := hRa.keep hf3 (fun e => e)
  have hRb3 := hRb.keep hf3 (fun e => e)
  cases g11 : decide (a.slots = b.slots) with
  | false =>
    rw [decide_eq_false_iff_not] at g11
    rw [rc_ne Rc.slots g11]
    simp only [RS0, RS1, RS2, RS3, RS4, RS5, Bool.not_false]
    exact ⟨(by trivial), hF3⟩
  | true =>
  simp only [RS0, RS1, RS2, RS3, RS4, RS5, Bool.not_true, hRa3.c12, hRb3.c12]
  refine (eqI_spec (ham.keep hF3 (fun _ _ e => e)) (hbm.keep hF3 (fun _ _ e => e))).mono ?_
  rintro _ w4 ⟨rfl, hf4⟩
  have hF4 := Fmf hF3 hf4
  have hRa4 := hRa3.keep hf4 (fun e => e)
  have hRb4 := hRb3.keep hf4 (fun e => e)
  cases g12 : decide (a.more = b.more) with
  | false =>
    rw [decide_eq_false_iff_not] at g12
    rw [rc_ne Rc.more g12]
    simp only [RS0, RS1, RS2, RS3, RS4, RS5, Bool.not_false]
    exact ⟨(by trivial), hF4⟩
  | true =>
  simp only [RS0, RS1, RS2, RS3, RS4, RS5, Bool.not_true, hRa4.c13, hRb4.c13]
  refine (eqIm_spec (hai.keep hF4) (hbi.keep hF4) (by omega)).mono ?_
  rintro _ w5 ⟨rfl, hf5⟩
  have hF5 := Fmf hF4 hf5
  have hRa5 := hRa4.keep hf5 (fun e => e)
  have hRb5 := hRb4.keep hf5 (fun e => e)
  cases g13 : decide (a.imgs = b.imgs) with
  | false =>
    rw [decide_eq_false_iff_not] at g13
    rw [rc_ne Rc.imgs g13]
    simp only [RS0, RS1, RS2, RS3, RS4, RS5]
    exact ⟨(by trivial), hF5⟩
  | true =>
  simp only [RS0, RS1, RS2, RS3, RS4, RS5, hRa5.c14, hRb5.c14]
  refine (eqO_spec (hap.keep hF5 (fun _ _ e => e)) (hbp.keep hF5 (fun _ _ e => e))).mono ?_
  rintro _ w6 ⟨rfl, hf6⟩
  have hF6 := Fmf hF5 hf6
  have hRa6 := hRa5.keep hf6 (fun e => e)
  have hRb6 := hRb5.keep hf6 (fun e => e)
  cases g14 : decide (a.pages = b.pages) with
  | false =>
    rw [decide_eq_false_iff_not] at g14
    rw [rc_ne Rc.pages g14]
    simp only [RS0, RS1, RS2, RS3, RS4, RS5]
    exact ⟨(by trivial), hF6⟩
  | true =>
  simp only [RS0, RS1, RS2, RS3, RS4, RS5, hRa6.c15, hRb6.c15]
  refine (eqB_spec (hat.keep hF6 (fun _ _ e => e)) (hbt.keep hF6 (fun _ _ e => e))).mono ?_
  rintro _ w7 ⟨rfl, hf7⟩
  try simp only [RS0, RS1, RS2, RS3, RS4, RS5]
  refine ⟨?_, Fmf hF6 hf7⟩
  congr 1
  rw [decide_eq_decide]
  rw [decide_eq_true_eq] at g0 g1 g2 g3 g4 g5 g6 g7 g8 g9 g10 g11 g12 g13 g14
  obtain ⟨a0, a1, a2, a3, a4, a5, a6, a7, a8, a9, a10, a11, a12, a13, a14, a15⟩ := a
  obtain ⟨b0, b1, b2, b3, b4, b5, b6, b7, b8, b9, b10, b11, b12, b13, b14, b15⟩ := b
  simp only at g0 g1 g2 g3 g4 g5 g6 g7 g8 g9 g10 g11 g12 g13 g14
  subst g0 g1 g2 g3 g4 g5 g6 g7 g8 g9 g10 g11 g12 g13 g14
  simp

end Go.Proofs.YthbngnlmgplijaaGreatDoor
