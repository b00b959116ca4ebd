/- Whether two pages are the same; a page with other items. -/
import Derived.Test.YthbngnlmgplijaaGreatDoorPgDec
namespace Go.Proofs.YthbngnlmgplijaaGreatDoor
open Go.Al Go.Proofs
set_option linter.unusedVariables false
set_option linter.unusedSimpArgs false
set_option linter.unusedSectionVars false
set_option maxRecDepth 100000

def sameB (a b : Pg) : Bool := decide (a.items = b.items) && decide (a.lsn = b.lsn) && decide (a.kind = b.kind) && decide (a.level = b.level) && decide (a.right = b.right) && decide (a.high = b.high)
theorem sameB_eq (a b : Pg) : sameB a b = decide (a = b) := by
  obtain ⟨a1, a2, a3, a4, a5, a6⟩ := a
  obtain ⟨b1, b2, b3, b4, b5, b6⟩ := b
  unfold sameB
  rw [Bool.eq_iff_iff]
  simp only [Bool.and_eq_true, decide_eq_true_eq, Pg.mk.injEq]
  constructor
  · rintro ⟨⟨⟨⟨⟨h1, h2⟩, h3⟩, h4⟩, h5⟩, h6⟩; exact ⟨h2, h3, h4, h5, h6, h1⟩
  · rintro ⟨h2, h3, h4, h5, h6, h1⟩; exact ⟨⟨⟨⟨⟨h1, h2⟩, h3⟩, h4⟩, h5⟩, h6⟩
theorem same_spec {w : World} {ca cb : Array Value} {a b : Pg} (ha : PgAs w ca a) (hb : PgAs w cb b) : Cl Tryz.prog 169 [.agg ca, .agg cb] w fun r w' => r = .bool (decide (a = b)) ∧ Fm (fun _ => False) w w' := by
  rw [← sameB_eq]
  obtain ⟨va, rfl, oa, hca⟩ := ha.ex
  obtain ⟨vb, rfl, ob, hcb⟩ := hb.ex
  refine c169 ?_; unfold T169
  refine New_any ?_
  intro xa w1 hxa hs1 hw1 hf1
  refine New_any ?_
  intro xb w2 hxb hs2 hw2 hf2
  replace hw1 : PB w2 xa a va := hf2.heap hw1 (fun e => e)
  replace hw2 : PB w2 xb b vb := hw2
  have hF2 := Fmf hf1 hf2
  simp only [RS0, RS1, RS2, RS3, RS4, RS5, hw1.c5, hw2.c5]
  refine (equal_spec (hca.keep hF2 (fun _ _ e => e)) (hcb.keep hF2 (fun _ _ e => e))).mono ?_
  rintro _ w3 ⟨rfl, hf3⟩
  have hA := hw1.keep hf3 (fun e => e)
  have hB := hw2.keep hf3 (fun e => e)
  have hF3 := Fmf hF2 hf3
  have hne : xa ≠ xb := by omega
  unfold sameB
  simp only [RS0, RS1, RS2, RS3, RS4, RS5]
  cases d0 : decide (a.items = b.items) with
  | false => simp only [RS0, RS1, RS2, RS3, RS4, RS5, Bool.false_and]; exact ⟨(by trivial), hF3⟩
  | true =>
  have hla := hA.lt
  have hlb := hB.lt
  have hz : w2.heap.size = w.heap.size + 2 := by omega
  have hxw : w.heap.size ≤ xa ∧ w.heap.size ≤ xb := by omega
  simp only [RS0, RS1, RS2, RS3, RS4, RS5, Bool.true_and]
  refine St_blk hA (by show 5 < 6; decide) rfl ?_
  intro w4 hw4 hs4 hf4
  replace hw4 : PB w4 xa a (.slice none 0 0) := hw4
  have hB4 := hB.keep hf4 (fun e => hne e.symm)
  try simp only [RS0, RS1, RS2, RS3, RS4, RS5]
  refine St_blk hB4 (by show 5 < 6; decide) rfl ?_
  intro w5 hw5 hs5 hf5
  replace hw5 : PB w5 xb b (.slice none 0 0) := hw5
  have hA5 := hw4.keep hf5 hne
  have hF5 : Fm (fun _ => False) w w5 := Fm.own (Fm.own hF3 hf4 (by rintro y rfl; omega)) hf5 (by rintro y rfl; omega)
  simp only [RS0, RS1, RS2, RS3, RS4, RS5, hA5.c0, hw5.c0, beq_dec]
  cases d1 : decide (a.lsn = b.lsn) with
  | false => simp only [RS0, RS1, RS2, RS3, RS4, RS5, Bool.false_and]; exact ⟨(by trivial), hF5⟩
  | true =>
  simp only [RS0, RS1, RS2, RS3, RS4, RS5, hA5.c1, hw5.c1, beq_dec, Bool.true_and]
  cases d2 : decide (a.kind = b.kind) with
  | false => simp only [RS0, RS1, RS2, RS3, RS4, RS5, Bool.false_and]; exact ⟨(by trivial), hF5⟩
  | true =>
  simp only [RS0, RS1, RS2, RS3, RS4, RS5, hA5.c2, hw5.c2, beq_dec, Bool.true_and]
  cases d3 : decide (a.level = b.level) with
  | false => simp only [RS0, RS1, RS2, RS3, RS4, RS5, Bool.false_and]; exact ⟨(by trivial), hF5⟩
  | true =>
  simp only [RS0, RS1, RS2, RS3, RS4, RS5, hA5.c3, hw5.c3, beq_dec, Bool.true_and]
  cases d4 : decide (a.right = b.right) with
  | false => simp only [RS0, RS1, RS2, RS3, RS4, RS5, Bool.false_and]; exact ⟨(by trivial), hF5⟩
  | true =>
  simp only [RS0, RS1, RS2, RS3, RS4, RS5, hA5.c4, hw5.c4, str_inj, Bool.true_and]
  exact ⟨(by trivial), hF5⟩
theorem rsame_spec {w : World} {ca cb : Array Value} {a b : Pg} (ha : PgAs w ca a) (hb : PgAs w cb b) : Cl Tryz.prog 34 [.agg ca, .agg cb] w fun r w' => r = .bool (decide (a = b)) ∧ Fm (fun _ => False) w w' := by
  obtain ⟨va, rfl, oa, hca⟩ := ha.ex
  obtain ⟨vb, rfl, ob, hcb⟩ := hb.ex
  refine c34 ?_; unfold T34
  refine New_any ?_
  intro xa w1 hxa hs1 hw1 hf1
  refine New_any ?_
  intro xb w2 hxb hs2 hw2 hf2
  replace hw1 : PB w2 xa a va := hf2.heap hw1 (fun e => e)
  replace hw2 : PB w2 xb b vb := hw2
  have hF2 := Fmf hf1 hf2
  have no : ¬ a = b → (Value.bool false = Value.bool (decide (a = b))) := fun h => by rw [show decide (a = b) = false by simpa using h]
  have hlt := hca.lt
  unfold maxLen at hlt
  simp only [RS0, RS1, RS2, RS3, RS4, RS5, hw1.c0, hw2.c0, bne_dec]
  cases d1 : decide (a.lsn = b.lsn) with
  | false => simp only [RS0, RS1, RS2, RS3, RS4, RS5]; exact ⟨no (fun e => by rw [e] at d1; simp at d1), hF2⟩
  | true =>
  simp only [RS0, RS1, RS2, RS3, RS4, RS5, hw1.c1, hw2.c1, bne_dec]
  cases d2 : decide (a.kind = b.kind) with
  | false => simp only [RS0, RS1, RS2, RS3, RS4, RS5]; exact ⟨no (fun e => by rw [e] at d2; simp at d2), hF2⟩
  | true =>
  simp only [RS0, RS1, RS2, RS3, RS4, RS5, hw1.c2, hw2.c2, bne_dec]
  cases d3 : decide (a.level = b.level) with
  | false => simp only [RS0, RS1, RS2, RS3, RS4, RS5]; exact ⟨no (fun e => by rw [e] at d3; simp at d3), hF2⟩
  | true =>
  simp only [RS0, RS1, RS2, RS3, RS4, RS5, hw1.c3, hw2.c3, bne_dec]
  cases d4 : decide (a.right = b.right) with
  | false => simp only [RS0, RS1, RS2, RS3, RS4, RS5]; exact ⟨no (fun e => by rw [e] at d4; simp at d4), hF2⟩
  | true =>
  simp only [RS0, RS1, RS2, RS3, RS4, RS5, hw1.c4, hw2.c4, str_inj]
  cases d5 : decide (a.high = b.high) with
  | false => simp only [RS0, RS1, RS2, RS3, RS4, RS5]; exact ⟨no (fun e => by rw [e] at d5; simp at d5), hF2⟩
  | true =>
  have dl : decide ((a.items.length : Int) = (b.items.length : Int)) = decide (a.items.length = b.items.length) := by rw [decide_eq_decide]; omega
  simp only [RS0, RS1, RS2, RS3, RS4, RS5, hw1.c5, hw2.c5, hca.lenV, hcb.lenV, bne_dec, dl]
  cases d6 : decide (a.items.length = b.items.length) with
  | false => simp only [RS0, RS1, RS2, RS3, RS4, RS5]; exact ⟨no (fun e => by rw [e] at d6; simp at d6), hF2⟩
  | true =>
  rw [decide_eq_true_eq] at d1 d2 d3 d4 d5 d6
  simp only [RS0, RS1, RS2, RS3, RS4, RS5]
  refine ⟨fun vs w2' => ∃ i : Nat, vs = [iv i] ∧ i ≤ a.items.length ∧ a.items.take i = b.items.take i ∧ PB w2' xa a va ∧ PB w2' xb b vb ∧ Fm (fun _ => False) w w2', fun vs _ => (a.items.length - nth vs 0).toNat, ⟨0, rfl, by omega, rfl, hw1, hw2, hF2⟩, ?_⟩
  rintro _ w3 ivv ⟨i, hvs, hi, heq, hA, hB, hF3⟩
  cases hvs
  by_cases hlt2 : i < a.items.length
  · have e1 : decide ((i : Int) < (a.items.length : Int)) = true := by rw [decide_eq_true_eq]; omega
    have e2 : IntKind.i64.wrap ((i : Int) + 1) = ((i + 1 : Nat) : Int) := by rw [wrap_id] <;> omega
    have hx : a.items[i]? = some a.items[i] := List.getElem?_eq_getElem hlt2
    have hy : b.items[i]? = some b.items[i] := List.getElem?_eq_getElem (by omega)
    generalize a.items[i] = x at hx
    generalize b.items[i] = y at hy
    have hf3 := Fm.drew (fun _ => False) w3
    obtain ⟨ad, hix, _, hc⟩ := hca.at1 (i := i) (x := stv x) (by rw [List.getElem?_map, hx]; rfl) .i64
    obtain ⟨ad', hix', _, hc'⟩ := hcb.at1 (i := i) (x := stv y) (by rw [List.getElem?_map, hy]; rfl) .i64
    have hc2 := hF3.cell' hc (fun e => e)
    have hc2' := hF3.cell' hc' (fun e => e)
    simp only [RS0, RS1, RS2, RS3, RS4, RS5, hA.c5, hca.lenV, e1, hB.c5, true_and, hix, hc2, hix', hc2', str_inj]
    cases hd : decide (x = y) with
    | true =>
      have hxy : x = y := by simpa using hd
      simp only [RS0, RS1, RS2, RS3, RS4, RS5, e2]
      exact ⟨⟨i + 1, rfl, by omega, by rw [List.take_add_one, List.take_add_one, heq, hx, hy, hxy], hA.keep hf3 (fun e => e), hB.keep hf3 (fun e => e), Fmf hF3 hf3⟩, by simp only [nth_0]; omega⟩
    | false =>
      simp only [RS0, RS1, RS2, RS3, RS4, RS5]
      refine ⟨no (fun e => ?_), Fmf hF3 hf3⟩
      rw [decide_eq_false_iff_not] at hd
      rw [e, hy] at hx
      cases hx
      exact hd rfl
  · have hie : i = a.items.length := by omega
    subst hie
    have e1 : decide (((a.items.length : Nat) : Int) < (a.items.length : Int)) = false := by simp
    rw [List.take_length, List.take_of_length_le (by omega)] at heq
    simp only [RS0, RS1, RS2, RS3, RS4, RS5, hA.c5, hca.lenV, e1]
    refine ⟨?_, hF3⟩
    have : a = b := by
      obtain ⟨a1, a2, a3, a4, a5, a6⟩ := a
      obtain ⟨b1, b2, b3, b4, b5, b6⟩ := b
      simp only at d1 d2 d3 d4 d5 heq
      rw [d1, d2, d3, d4, d5, heq]
    rw [show decide (a = b) = true by simpa using this]

end Go.Proofs.YthbngnlmgplijaaGreatDoor
