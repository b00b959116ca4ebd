/- A record's bounds and body, by the document. -/
import Derived.Test.YtodnakepbdhfkaaDoorRcRef1
namespace Go.Proofs.YtodnakepbdhfkaaDoor
open Go.Al Go.Proofs
set_option linter.unusedVariables false
set_option linter.unusedSimpArgs false
set_option linter.unusedSectionVars false
set_option maxRecDepth 100000

theorem cellsV_cell {w : World} {ad : Addr} {n : Nat} {cs : Array Value} (h : cellsV w ad n = some (.agg cs)) {i : Nat} {x : Value} (hx : cs[i]? = some x) : w.cell? (ad.add i) = some x := by
  have key : ∀ (n j : Nat) (l : List Value), cellsAt w ad j n = some l → ∀ (i : Nat) (x : Value), l[i]? = some x → w.cell? (ad.add (j + i)) = some x := by
    intro n
    induction n with
    | zero => intro j l hl i x hx; simp only [cellsAt, Option.some.injEq] at hl; subst hl; simp at hx
    | succ n ih =>
      intro j l hl i x hx
      simp only [cellsAt] at hl
      cases hc : w.cell? (ad.add j) with
      | none => rw [hc] at hl; cases hl
      | some v =>
        rw [hc] at hl
        cases hr : cellsAt w ad (j + 1) n with
        | none => rw [hr] at hl; cases hl
        | some l' =>
          rw [hr] at hl
          simp only [Option.map_some, Option.some.injEq] at hl
          subst hl
          cases i with
          | zero => simp at hx; subst hx; exact hc
          | succ i =>
            have := ih (j + 1) l' hr i x (by simpa using hx)
            rw [show j + (i + 1) = j + 1 + i by omega]; exact this
  unfold cellsV at h
  cases hc : cellsAt w ad 0 n with
  | none => rw [hc] at h; cases h
  | some l =>
    rw [hc] at h
    simp only [Option.map_some, Option.some.injEq, Value.agg.injEq] at h
    subst h
    have := key n 0 l hc i x (by simpa using hx)
    rw [Nat.zero_add] at this; exact this
def rangeR (r : Rc) : Bool := !(decide (r.lsn < 1) || (rNums r).any badN)
theorem prs_take_step {l : List (Int × Int)} {i : Nat} {m : Int × Int} (hx : l[i]? = some m) : (prs (l.take (i + 1))).any badN = ((prs (l.take i)).any badN || badN m.1 || badN m.2) := by
  rw [List.take_add_one, hx]
  simp [prs, Bool.or_assoc]
theorem prs_any_mem {l : List (Int × Int)} {m : Int × Int} (hm : m ∈ l) (hb : badN m.1 = true ∨ badN m.2 = true) : (prs l).any badN = true := by
  obtain ⟨q1, q2⟩ := mem_prs hm
  rcases hb with h | h
  · exact List.any_eq_true.2 ⟨_, q1, h⟩
  · exact List.any_eq_true.2 ⟨_, q2, h⟩
set_option maxHeartbeats 8000000 in
theorem ranges_spec {w : World} {cs : Array Value} {r : Rc} (h : RcAs w cs r) : Cl Tryd.prog 66 [.agg cs] w fun v w' => v = .bool (rangeR r) ∧ Fm (fun _ => False) w w' := by
  obtain ⟨vs, vm, vi, vp, vt, hcs, _, hs, hm, hi, hp, ht⟩ := h.ex
  have hbulk := h.bulk
  have hA : (rNums r).any badN = ([r.lsn, r.prev, r.next, r.redo, r.xid, r.page, r.slot, r.old, r.new].any badN || r.slots.any badN || r.more.any badN || (r.imgs.map (·.1)).any badN || (prs r.pages).any badN || (prs r.txns).any badN) := by
    unfold rNums
    simp only [List.any_append]
  refine c66 ?_; unfold T66
  refine New_any ?_
  intro x1 w1 hx1 hs1 hw1 hf1
  have hR1 : RB w1 x1 r vs vm vi vp vt := ⟨by rw [← hcs]; exact hw1⟩
  unfold rangeR
  rw [hA]
  simp only [RS0, RS1, RS2, RS3, RS4, RS5, hR1.c0]
  cases e1 : decide (r.lsn < 1) with
  | true =>
    simp only [RS0, RS1, RS2, RS3, RS4, RS5, Bool.true_or]
    exact ⟨(by trivial), hf1⟩
  | false =>
  simp only [RS0, RS1, RS2, RS3, RS4, RS5, hR1.c0, hR1.c1, hR1.c2, hR1.c9, hR1.c4, hR1.c5, hR1.c6, hR1.c7, hR1.c8, Bool.false_or]
  refine RunS_ok (bs47_9 _ _ _ _ _ _ _ _ _ _) ?_
  have hfa := Fm.alloc (fun _ => False) w1 (.cells ([r.lsn, r.prev, r.next, r.redo, r.xid, r.page, r.slot, r.old, r.new].map iv).toArray 3)
  have hnew := own_new (w := w1) (e := 3) (sz := 1) (base := w1.heap.size) (n := 9) (l := [r.lsn, r.prev, r.next, r.redo, r.xid, r.page, r.slot, r.old, r.new].map iv) rfl (Nat.le_refl _) (by decide)
  refine (lists_spec (L := [r.lsn, r.prev, r.next, r.redo, r.xid, r.page, r.slot, r.old, r.new]) (CellsAt.of_own hnew)).mono ?_
  rintro _ w2 ⟨rfl, rfl⟩
  have hF2 := Fmf hf1 hfa
  have hR2 := hR1.keep hfa (fun e => e)
  generalize (w1.alloc (.cells ([r.lsn, r.prev, r.next, r.redo, r.xid, r.page, r.slot, r.old, r.new].map iv).toArray 3)) = w2 at hF2 hR2
  generalize [r.lsn, r.prev, r.next, r.redo, r.xid, r.page, r.slot, r.old, r.new].any badN = b9
  clear hnew hfa
  have hs2 := hs.keep hF2 (fun _ _ e => e)
  have hm2 := hm.keep hF2 (fun _ _ e => e)
  have hi2 := hi.keep hF2
  have hp2 := hp.keep hF2 (fun _ _ e => e)
  have ht2 := ht.keep hF2 (fun _ _ e => e)
  cases b9 with
  | true =>
    simp only [RS0, RS1, RS2, RS3, RS4, RS5, Bool.true_or]
    exact ⟨(by trivial), hF2⟩
  | false =>
  simp only [RS0, RS1, RS2, RS3, RS4, RS5, Bool.false_or, hR2.c11]
  refine (lists_spec hs2).mono ?_
  rintro _ w3 ⟨rfl, rfl⟩
  cases q1 : r.slots.any badN with
  | true =>
    simp only [RS0, RS1, RS2, RS3, RS4, RS5, Bool.true_or]
    exact ⟨(by trivial), hF2⟩
  | false =>
  simp only [RS0, RS1, RS2, RS3, RS4, RS5, Bool.false_or, hR2.c12]
  refine (lists_spec hm2).mono ?_
  rintro _ w4 ⟨rfl, rfl⟩
  cases q2 : r.more.any badN with
  | true =>
    simp only [RS0, RS1, RS2, RS3, RS4, RS5, Bool.true_or]
    exact ⟨(by trivial), hF2⟩
  | false =>
  simp only [RS0, RS1, RS2, RS3, RS4, RS5, Bool.false_or]
  refine ⟨fun vl w5 => ∃ i : Nat, vl = [iv i] ∧ i ≤ r.imgs.length ∧ ((r.imgs.take i).map (·.1)).any badN = false ∧ w5 = w4, fun vl _ => (r.imgs.length - nth vl 0).toNat, ⟨0, rfl, by omega, rfl, rfl⟩, ?_⟩
  rintro _ w5 iv5 ⟨i, hvl, hile, hno, rfl⟩
  cases hvl
  by_cases hlt : i < r.imgs.length
  · have hx : r.imgs[i]? = some r.imgs[i] := List.getElem?_eq_getElem hlt
    generalize r.imgs[i] = m at hx
    have hmm := List.mem_of_getElem? hx
    obtain ⟨ad, u, hix, hcv, hone, hpg⟩ := hi2.ld hx
    have hc0 : w5.cell? ad = some (iv m.1) := by
      have := cellsV_cell hcv (i := 0) (x := iv m.1) rfl
      rw [Go.Al.add_zero] at this; exact this
    have d2 : decide ((i : Int) < (r.imgs.length : Int)) = true := by rw [decide_eq_true_eq]; omega
    have e2 : IntKind.i64.wrap ((i : Int) + 1) = ((i + 1 : Nat) : Int) := by rw [wrap_id] <;> omega
    simp only [RS0, RS1, RS2, RS3, RS4, RS5, hR2.c13, hi2.lenV, d2, hix, hc0]
    refine (within_spec w5 m.1).mono ?_
    rintro _ w6 ⟨rfl, rfl⟩
    cases hb : badN m.1 with
    | true =>
      simp only [RS0, RS1, RS2, RS3, RS4, RS5]
      have : (r.imgs.map (·.1)).any badN = true := List.any_eq_true.2 ⟨_, List.mem_map.2 ⟨m, hmm, rfl⟩, hb⟩
      rw [this]
      exact ⟨(by trivial), hF2⟩
    | false =>
      simp only [RS0, RS1, RS2, RS3, RS4, RS5, e2]
      refine ⟨⟨i + 1, rfl, by omega, ?_, (by trivial)⟩, by simp only [nth_0]; omega⟩
      rw [List.take_add_one, hx, List.map_append, List.any_append, hno]
      simp [hb]
  have hie : i = r.imgs.length := by omega
  subst hie
  have d2 : decide (((r.imgs.length : Nat) : Int) < (r.imgs.length : Int)) = false := by simp
  rw [List.take_length] at hno
  rw [hno]
  simp only [RS0, RS1, RS2, RS3, RS4, RS5, hR2.c13, hi2.lenV, d2, Bool.false_or]
  clear hno d2 hlt
  refine ⟨fun vl w6 => ∃ i : Nat, vl = [iv i] ∧ i ≤ r.pages.length ∧ (prs (r.pages.take i)).any badN = false ∧ w6 = w5, fun vl _ => (r.pages.length - nth vl 0).toNat, ⟨0, rfl, by omega, rfl, rfl⟩, ?_⟩
  rintro _ w6 iv6 ⟨i, hvl, hile, hno, rfl⟩
  cases hvl
  by_cases hlt : i < r.pages.length
  · have hx : r.pages[i]? = some r.pages[i] := List.getElem?_eq_getElem hlt
    generalize r.pages[i] = m at hx
    have hmm := List.mem_of_getElem? hx
    obtain ⟨ad, hix, hcv, _⟩ := cells_ld pc2_len (by omega) hp2 hx
    have hc0 : w6.cell? ad = some (iv m.1) := by
      have := cellsV_cell hcv (i := 0) (x := iv m.1) rfl
      rw [Go.Al.add_zero] at this; exact this
    have hc1 : w6.cell? (ad.add 1) = some (iv m.2) := cellsV_cell hcv (i := 1) (x := iv m.2) rfl
    have d2 : decide ((i : Int) < (r.pages.length : Int)) = true := by rw [decide_eq_true_eq]; omega
    have e2 : IntKind.i64.wrap ((i : Int) + 1) = ((i + 1 : Nat) : Int) := by rw [wrap_id] <;> omega
    have hstep := prs_take_step hx
    simp only [RS0, RS1, RS2, RS3, RS4, RS5, hR2.c14, hp2.lenV, d2, hix, hc0]
    refine (within_spec w6 m.1).mono ?_
    rintro _ w7 ⟨rfl, rfl⟩
    cases hb : badN m.1 with
    | true =>
      simp only [RS0, RS1, RS2, RS3, RS4, RS5]
      rw [prs_any_mem hmm (.inl hb)]
      exact ⟨(by trivial), hF2⟩
    | false =>
      simp only [RS0, RS1, RS2, RS3, RS4, RS5, hR2.c14, hix, hc1]
      refine (within_spec w7 m.2).mono ?_
      rintro _ w8 ⟨rfl, rfl⟩
      cases hb2 : badN m.2 with
      | true =>
        simp only [RS0, RS1, RS2, RS3, RS4, RS5]
        rw [prs_any_mem hmm (.inr hb2)]
        exact ⟨(by trivial), hF2⟩
      | false =>
        simp only [RS0, RS1, RS2, RS3, RS4, RS5, e2]
        refine ⟨⟨i + 1, rfl, by omega, ?_, (by trivial)⟩, by simp only [nth_0]; omega⟩
        rw [hstep, hno, hb, hb2]; rfl
  have hie : i = r.pages.length := by omega
  subst hie
  have d2 : decide (((r.pages.length : Nat) : Int) < (r.pages.length : Int)) = false := by simp
  rw [List.take_length] at hno
  rw [hno]
  simp only [RS0, RS1, RS2, RS3, RS4, RS5, hR2.c14, hp2.lenV, d2, Bool.false_or]
  clear hno d2 hlt
  refine ⟨fun vl w7 => ∃ i : Nat, vl = [iv i] ∧ i ≤ r.txns.length ∧ (prs (r.txns.take i)).any badN = false ∧ w7 = w6, fun vl _ => (r.txns.length - nth vl 0).toNat, ⟨0, rfl, by omega, rfl, rfl⟩, ?_⟩
  rintro _ w7 iv7 ⟨i, hvl, hile, hno, rfl⟩
  cases hvl
  by_cases hlt : i < r.txns.length
  · have hx : r.txns[i]? = some r.txns[i] := List.getElem?_eq_getElem hlt
    generalize r.txns[i] = m at hx
    have hmm := List.mem_of_getElem? hx
    obtain ⟨ad, hix, hcv, _⟩ := cells_ld pc2_len (by omega) ht2 hx
    have hc0 : w7.cell? ad = some (iv m.1) := by
      have := cellsV_cell hcv (i := 0) (x := iv m.1) rfl
      rw [Go.Al.add_zero] at this; exact this
    have hc1 : w7.cell? (ad.add 1) = some (iv m.2) := cellsV_cell hcv (i := 1) (x := iv m.2) rfl
    have d2 : decide ((i : Int) < (r.txns.length : Int)) = true := by rw [decide_eq_true_eq]; omega
    have e2 : IntKind.i64.wrap ((i : Int) + 1) = ((i + 1 : Nat) : Int) := by rw [wrap_id] <;> omega
    have hstep := prs_take_step hx
    simp only [RS0, RS1, RS2, RS3, RS4, RS5, hR2.c15, ht2.lenV, d2, hix, hc0]
    refine (within_spec w7 m.1).mono ?_
    rintro _ w8 ⟨rfl, rfl⟩
    cases hb : badN m.1 with
    | true =>
      simp only [RS0, RS1, RS2, RS3, RS4, RS5]
      rw [prs_any_mem hmm (.inl hb)]
      exact ⟨(by trivial), hF2⟩
    | false =>
      simp only [RS0, RS1, RS2, RS3, RS4, RS5, hR2.c15, hix, hc1]
      refine (within_spec w8 m.2).mono ?_
      rintro _ w9 ⟨rfl, rfl⟩
      cases hb2 : badN m.2 with
      | true =>
        simp only [RS0, RS1, RS2, RS3, RS4, RS5]
        rw [prs_any_mem hmm (.inr hb2)]
        exact ⟨(by trivial), hF2⟩
      | false =>
        simp only [RS0, RS1, RS2, RS3, RS4, RS5, e2]
        refine ⟨⟨i + 1, rfl, by omega, ?_, (by trivial)⟩, by simp only [nth_0]; omega⟩
        rw [hstep, hno, hb, hb2]; rfl
  have hie : i = r.txns.length := by omega
  subst hie
  have d2 : decide (((r.txns.length : Nat) : Int) < (r.txns.length : Int)) = false := by simp
  rw [List.take_length] at hno
  rw [hno]
  simp only [RS0, RS1, RS2, RS3, RS4, RS5, hR2.c15, ht2.lenV, d2]
  exact ⟨(by trivial), hF2⟩

end Go.Proofs.YtodnakepbdhfkaaDoor
