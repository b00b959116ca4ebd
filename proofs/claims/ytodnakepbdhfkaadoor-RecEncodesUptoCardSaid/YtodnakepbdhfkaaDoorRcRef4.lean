/- Whether two records are the same, by the document. -/
import Derived.Test.YtodnakepbdhfkaaDoorRcSame
import Derived.Test.YtodnakepbdhfkaaDoorRcRef3
namespace Go.Proofs.YtodnakepbdhfkaaDoor
open Go.Al Go.Proofs
set_option linter.unusedVariables false
set_option linter.unusedSimpArgs false
set_option linter.unusedSectionVars false
set_option maxRecDepth 100000

set_option maxHeartbeats 2000000 in
theorem rints_spec {w : World} {va vb : Value} {A B : List (Int)} (hA : CellsAt w va A.length 1 (A.map iv)) (hB : CellsAt w vb B.length 1 (B.map iv)) : Cl Tryd.prog 72 [va, vb] w fun v w' => v = .bool (decide (A = B)) ∧ Fm (fun _ => False) w w' := by
  have hlt := hA.lt
  unfold maxLen at hlt
  refine c72 ?_; unfold T72
  have dl : decide ((A.length : Int) = (B.length : Int)) = decide (A.length = B.length) := by rw [decide_eq_decide]; omega
  simp only [RS0, RS1, RS2, RS3, RS4, RS5, hA.lenV, hB.lenV, bne_dec, dl]
  cases hd : decide (A.length = B.length) with
  | false =>
    rw [decide_eq_false_iff_not] at hd
    rw [ne_len hd]
    simp only [RS0, RS1, RS2, RS3, RS4, RS5, Bool.not_false]
    exact ⟨(by trivial), Fm.refl _ _⟩
  | true =>
  rw [decide_eq_true_eq] at hd
  simp only [RS0, RS1, RS2, RS3, RS4, RS5, Bool.not_true, hA.lenV]
  refine ⟨fun vl w2 => ∃ i : Nat, vl = [iv i] ∧ i ≤ A.length ∧ A.take i = B.take i ∧ Fm (fun _ => False) w w2, fun vl _ => (A.length - nth vl 0).toNat, ⟨0, rfl, by omega, by simp, Fm.refl _ _⟩, ?_⟩
  rintro _ w2 ivv ⟨i, hvl, hi, ht, hF⟩
  cases hvl
  by_cases hl : i < A.length
  · have d1 : decide ((i : Int) < (A.length : Int)) = true := by rw [decide_eq_true_eq]; omega
    have e1 : IntKind.i64.wrap ((i : Int) + 1) = ((i + 1 : Nat) : Int) := by rw [wrap_id] <;> omega
    have hx : A[i]? = some A[i] := List.getElem?_eq_getElem hl
    have hy : B[i]? = some B[i] := List.getElem?_eq_getElem (by omega)
    generalize A[i] = x at hx
    generalize B[i] = y at hy
    have hFd := Fmf hF (Fm.drew _ w2)
    obtain ⟨ad, h1, _, h2⟩ := (hA.keep hF (fun _ _ e => e)).at1 (i := i) (x := iv x) (by rw [List.getElem?_map, hx]; rfl) .i64
    obtain ⟨ad', h3, _, h4⟩ := (hB.keep hF (fun _ _ e => e)).at1 (i := i) (x := iv y) (by rw [List.getElem?_map, hy]; rfl) .i64
    simp only [RS0, RS1, RS2, RS3, RS4, RS5, d1, h1, h2, h3, h4, bne_dec, true_and]
    cases hxy : decide (x = y) with
    | false =>
      rw [decide_eq_false_iff_not] at hxy
      rw [ne_at hx hy hxy]
      simp only [RS0, RS1, RS2, RS3, RS4, RS5, Bool.not_false]
      exact ⟨(by trivial), hFd⟩
    | true =>
      rw [decide_eq_true_eq] at hxy
      simp only [RS0, RS1, RS2, RS3, RS4, RS5, Bool.not_true, e1]
      exact ⟨⟨i + 1, rfl, by omega, take_step ht hx hy hxy, hFd⟩, by simp only [nth_0]; omega⟩
  · have hie : i = A.length := by omega
    subst hie
    have d1 : decide (((A.length : Nat) : Int) < (A.length : Int)) = false := by simp
    rw [eq_end hd ht]
    simp only [RS0, RS1, RS2, RS3, RS4, RS5, d1]
    exact ⟨(by trivial), hF⟩

set_option maxHeartbeats 16000000 in
theorem rrsame_spec {w : World} {ca cb : Array Value} {a b : Rc} (ha : RcAs w ca a) (hb : RcAs w cb b) : Cl Tryd.prog 42 [.agg ca, .agg cb] w fun v w' => v = .bool (decide (a = b)) ∧ Fm (fun _ => False) w w' := by
  obtain ⟨as_, am, ai, ap, at_, hca, _, has, ham, hai, hap, hat⟩ := ha.ex
  obtain ⟨bs_, bm, bi, bp, bt, hcb, _, hbs, hbm, hbi, hbp, hbt⟩ := hb.ex
  have hbulk := ha.bulk
  refine c42 ?_; unfold T42
  refine New_any ?_
  intro x1 w1 hx1 hs1 hw1 hf1
  refine New_any ?_
  intro x2 w2 hx2 hs2 hw2 hf2
  have hRa : RB w2 x1 a as_ am ai ap at_ := ⟨by rw [← hca]; exact hf2.heap hw1 (fun e => e)⟩
  have hRb : RB w2 x2 b bs_ bm bi bp bt := ⟨by rw [← hcb]; exact hw2⟩
  have hF2 := Fmf hf1 hf2
  simp only [RS0, RS1, RS2, RS3, RS4, RS5, Bool.not_true, hRa.c0, hRb.c0, bne_dec]
  cases g0 : decide (a.lsn = b.lsn) with
  | false =>
    rw [decide_eq_false_iff_not] at g0
    rw [rc_ne Rc.lsn g0]
    simp only [RS0, RS1, RS2, RS3, RS4, RS5, Bool.not_false]
    exact ⟨(by trivial), hF2⟩
  | true =>
  simp only [RS0, RS1, RS2, RS3, RS4, RS5, Bool.not_true, hRa.c1, hRb.c1, bne_dec]
  cases g1 : decide (a.prev = b.prev) with
  | false =>
    rw [decide_eq_false_iff_not] at g1
    rw [rc_ne Rc.prev g1]
    simp only [RS0, RS1, RS2, RS3, RS4, RS5, Bool.not_false]
    exact ⟨(by trivial), hF2⟩
  | true =>
  simp only [RS0, RS1, RS2, RS3, RS4, RS5, Bool.not_true, hRa.c2, hRb.c2, bne_dec]
  cases g2 : decide (a.next = b.next) with
  | false =>
    rw [decide_eq_false_iff_not] at g2
    rw [rc_ne Rc.next g2]
    simp only [RS0, RS1, RS2, RS3, RS4, RS5, Bool.not_false]
    exact ⟨(by trivial), hF2⟩
  | true =>
  simp only [RS0, RS1, RS2, RS3, RS4, RS5, Bool.not_true, hRa.c3, hRb.c3, bne_dec]
  cases g3 : decide (a.kind = b.kind) with
  | false =>
    rw [decide_eq_false_iff_not] at g3
    rw [rc_ne Rc.kind g3]
    simp only [RS0, RS1, RS2, RS3, RS4, RS5, Bool.not_false]
    exact ⟨(by trivial), hF2⟩
  | true =>
  simp only [RS0, RS1, RS2, RS3, RS4, RS5, Bool.not_true, hRa.c4, hRb.c4, bne_dec]
  cases g4 : decide (a.xid = b.xid) with
  | false =>
    rw [decide_eq_false_iff_not] at g4
    rw [rc_ne Rc.xid g4]
    simp only [RS0, RS1, RS2, RS3, RS4, RS5, Bool.not_false]
    exact ⟨(by trivial), hF2⟩
  | true =>
  simp only [RS0, RS1, RS2, RS3, RS4, RS5, Bool.not_true, hRa.c5, hRb.c5, bne_dec]
  cases g5 : decide (a.page = b.page) with
  | false =>
    rw [decide_eq_false_iff_not] at g5
    rw [rc_ne Rc.page g5]
    simp only [RS0, RS1, RS2, RS3, RS4, RS5, Bool.not_false]
    exact ⟨(by trivial), hF2⟩
  | true =>
  simp only [RS0, RS1, RS2, RS3, RS4, RS5, Bool.not_true, hRa.c6, hRb.c6, bne_dec]
  cases g6 : decide (a.slot = b.slot) with
  | false =>
    rw [decide_eq_false_iff_not] at g6
    rw [rc_ne Rc.slot g6]
    simp only [RS0, RS1, RS2, RS3, RS4, RS5, Bool.not_false]
    exact ⟨(by trivial), hF2⟩
  | true =>
  simp only [RS0, RS1, RS2, RS3, RS4, RS5, Bool.not_true, hRa.c7, hRb.c7, bne_dec]
  cases g7 : decide (a.old = b.old) with
  | false =>
    rw [decide_eq_false_iff_not] at g7
    rw [rc_ne Rc.old g7]
    simp only [RS0, RS1, RS2, RS3, RS4, RS5, Bool.not_false]
    exact ⟨(by trivial), hF2⟩
  | true =>
  simp only [RS0, RS1, RS2, RS3, RS4, RS5, Bool.not_true, hRa.c8, hRb.c8, bne_dec]
  cases g8 : decide (a.new = b.new) with
  | false =>
    rw [decide_eq_false_iff_not] at g8
    rw [rc_ne Rc.new g8]
    simp only [RS0, RS1, RS2, RS3, RS4, RS5, Bool.not_false]
    exact ⟨(by trivial), hF2⟩
  | true =>
  simp only [RS0, RS1, RS2, RS3, RS4, RS5, Bool.not_true, hRa.c9, hRb.c9, bne_dec]
  cases g9 : decide (a.redo = b.redo) with
  | false =>
    rw [decide_eq_false_iff_not] at g9
    rw [rc_ne Rc.redo g9]
    simp only [RS0, RS1, RS2, RS3, RS4, RS5, Bool.not_false]
    exact ⟨(by trivial), hF2⟩
  | true =>
  simp only [RS0, RS1, RS2, RS3, RS4, RS5, Bool.not_true, hRa.c10, hRb.c10, str_inj]
  cases g10 : decide (a.data = b.data) with
  | false =>
    rw [decide_eq_false_iff_not] at g10
    rw [rc_ne Rc.data g10]
    simp only [RS0, RS1, RS2, RS3, RS4, RS5, Bool.not_false]
    exact ⟨(by trivial), hF2⟩
  | true =>
  simp only [RS0, RS1, RS2, RS3, RS4, RS5, Bool.not_true, hRa.c11, hRb.c11]
  refine (rints_spec (has.keep hF2 (fun _ _ e => e)) (hbs.keep hF2 (fun _ _ e => e))).mono ?_
  rintro _ w3 ⟨rfl, hf3⟩
  have hF3 := Fmf hF2 hf3
  have hRa3 := hRa.keep hf3 (fun e => e)
  have hRb3 := hRb.keep hf3 (fun e => e)
  cases g11 : decide (a.slots = b.slots) with
  | false =>
    rw [decide_eq_false_iff_not] at g11
    rw [rc_ne Rc.slots g11]
    simp only [RS0, RS1, RS2, RS3, RS4, RS5, Bool.not_false]
    exact ⟨(by trivial), hF3⟩
  | true =>
  simp only [RS0, RS1, RS2, RS3, RS4, RS5, Bool.not_true, hRa3.c12, hRb3.c12]
  refine (rints_spec (ham.keep hF3 (fun _ _ e => e)) (hbm.keep hF3 (fun _ _ e => e))).mono ?_
  rintro _ w4 ⟨rfl, hf4⟩
  have hF4 := Fmf hF3 hf4
  have hRa4 := hRa3.keep hf4 (fun e => e)
  have hRb4 := hRb3.keep hf4 (fun e => e)
  cases g12 : decide (a.more = b.more) with
  | false =>
    rw [decide_eq_false_iff_not] at g12
    rw [rc_ne Rc.more g12]
    simp only [RS0, RS1, RS2, RS3, RS4, RS5, Bool.not_false]
    exact ⟨(by trivial), hF4⟩
  | true =>
  have hia := hai.keep hF4
  have hib := hbi.keep hF4
  have hpa := hap.keep hF4 (fun _ _ e => e)
  have hpb := hbp.keep hF4 (fun _ _ e => e)
  have hta := hat.keep hF4 (fun _ _ e => e)
  have htb := hbt.keep hF4 (fun _ _ e => e)
  have dl1 : decide ((a.imgs.length : Int) = (b.imgs.length : Int)) = decide (a.imgs.length = b.imgs.length) := by rw [decide_eq_decide]; omega
  have dl2 : decide ((a.pages.length : Int) = (b.pages.length : Int)) = decide (a.pages.length = b.pages.length) := by rw [decide_eq_decide]; omega
  have dl3 : decide ((a.txns.length : Int) = (b.txns.length : Int)) = decide (a.txns.length = b.txns.length) := by rw [decide_eq_decide]; omega
  simp only [RS0, RS1, RS2, RS3, RS4, RS5, Bool.not_true, hRa4.c13, hRb4.c13, hia.lenV, hib.lenV, bne_dec, dl1]
  cases hd1 : decide (a.imgs.length = b.imgs.length) with
  | false =>
    rw [decide_eq_false_iff_not] at hd1
    rw [rc_ne Rc.imgs (fun e => hd1 (congrArg List.length e))]
    simp only [RS0, RS1, RS2, RS3, RS4, RS5, Bool.not_false]
    exact ⟨(by trivial), hF4⟩
  | true =>
  simp only [RS0, RS1, RS2, RS3, RS4, RS5, Bool.not_true, hRa4.c14, hRb4.c14, hpa.lenV, hpb.lenV, bne_dec, dl2]
  cases hd2 : decide (a.pages.length = b.pages.length) with
  | false =>
    rw [decide_eq_false_iff_not] at hd2
    rw [rc_ne Rc.pages (fun e => hd2 (congrArg List.length e))]
    simp only [RS0, RS1, RS2, RS3, RS4, RS5, Bool.not_false]
    exact ⟨(by trivial), hF4⟩
  | true =>
  simp only [RS0, RS1, RS2, RS3, RS4, RS5, Bool.not_true, hRa4.c15, hRb4.c15, hta.lenV, htb.lenV, bne_dec, dl3]
  cases hd3 : decide (a.txns.length = b.txns.length) with
  | false =>
    rw [decide_eq_false_iff_not] at hd3
    rw [rc_ne Rc.txns (fun e => hd3 (congrArg List.length e))]
    simp only [RS0, RS1, RS2, RS3, RS4, RS5, Bool.not_false]
    exact ⟨(by trivial), hF4⟩
  | true =>
  rw [decide_eq_true_eq] at hd1 hd2 hd3
  simp only [RS0, RS1, RS2, RS3, RS4, RS5, Bool.not_true]
  clear dl1 dl2 dl3
  refine ⟨fun vl w5 => ∃ i : Nat, vl = [iv i] ∧ i ≤ a.imgs.length ∧ a.imgs.take i = b.imgs.take i ∧ Fm (fun _ => False) w4 w5, fun vl _ => (a.imgs.length - nth vl 0).toNat, ⟨0, rfl, by omega, by simp, Fm.refl _ _⟩, ?_⟩
  rintro _ w5 iv5 ⟨i, hvl, hile, htk, hf5⟩
  cases hvl
  have hRa5 := hRa4.keep hf5 (fun e => e)
  have hRb5 := hRb4.keep hf5 (fun e => e)
  have hia5 := hia.keep hf5
  have hib5 := hib.keep hf5
  by_cases hlt : i < a.imgs.length
  · have d1 : decide ((i : Int) < (a.imgs.length : Int)) = true := by rw [decide_eq_true_eq]; omega
    have e1 : IntKind.i64.wrap ((i : Int) + 1) = ((i + 1 : Nat) : Int) := by rw [wrap_id] <;> omega
    have hx : a.imgs[i]? = some a.imgs[i] := List.getElem?_eq_getElem hlt
    have hy : b.imgs[i]? = some b.imgs[i] := List.getElem?_eq_getElem (by omega)
    generalize a.imgs[i] = x at hx
    generalize b.imgs[i] = y at hy
    obtain ⟨ad, u, h1, h2, hu, hpu⟩ := hia5.ld hx
    obtain ⟨ad', u', h3, h4, hu', hpu'⟩ := hib5.ld hy
    have hc0 : w5.cell? ad = some (iv x.1) := by
      have := cellsV_cell h2 (i := 0) (x := iv x.1) rfl
      rw [Go.Al.add_zero] at this; exact this
    have hc0' : w5.cell? ad' = some (iv y.1) := by
      have := cellsV_cell h4 (i := 0) (x := iv y.1) rfl
      rw [Go.Al.add_zero] at this; exact this
    have hfd := Fm.drew (fun _ => False) w5
    have s1 := cellsV_keep (im_sub h2) hfd (fun e => e)
    have s2 := cellsV_keep (im_sub h4) hfd (fun e => e)
    simp only [RS0, RS1, RS2, RS3, RS4, RS5, hRa5.c13, hia5.lenV, d1, h1, hc0, hRb5.c13, h3, hc0', true_and, bne_dec]
    cases h0 : decide (x.1 = y.1) with
    | false =>
      rw [decide_eq_false_iff_not] at h0
      rw [rc_ne Rc.imgs (fun e => h0 (by rw [e, hy] at hx; cases hx; rfl))]
      simp only [RS0, RS1, RS2, RS3, RS4, RS5, Bool.not_false]
      exact ⟨(by trivial), trivial, trivial, trivial, trivial, Fmf hF4 (Fmf hf5 hfd)⟩
    | true =>
    rw [decide_eq_true_eq] at h0
    simp only [RS0, RS1, RS2, RS3, RS4, RS5, Bool.not_true, hRa5.c13, h1, s1, hRb5.c13, h3, s2, true_and]
    refine (rsame_spec ((hpu.keep hfd)) ((hpu'.keep hfd))).mono ?_
    rintro _ w6 ⟨rfl, hf6⟩
    have hF6 := Fmf hf5 (Fmf hfd hf6)
    cases h00 : decide (x.2 = y.2) with
    | false =>
      rw [decide_eq_false_iff_not] at h00
      rw [rc_ne Rc.imgs (fun e => h00 (by rw [e, hy] at hx; cases hx; rfl))]
      simp only [RS0, RS1, RS2, RS3, RS4, RS5, Bool.not_false]
      exact ⟨(by trivial), Fmf hF4 hF6⟩
    | true =>
    rw [decide_eq_true_eq] at h00
    simp only [RS0, RS1, RS2, RS3, RS4, RS5, Bool.not_true, e1]
    exact ⟨⟨i + 1, rfl, by omega, take_step htk hx hy (Prod.ext h0 h00), hF6⟩, by simp only [nth_0]; omega⟩
  have hie : i = a.imgs.length := by omega
  subst hie
  have d1 : decide (((a.imgs.length : Nat) : Int) < (a.imgs.length : Int)) = false := by simp
  have g13 := eq_end hd1 htk
  simp only [RS0, RS1, RS2, RS3, RS4, RS5, hRa5.c13, hia5.lenV, d1]
  clear d1 hlt htk
  have hpagesa := hpa.keep hf5 (fun _ _ e => e)
  have hpagesb := hpb.keep hf5 (fun _ _ e => e)
  refine ⟨fun vl w6 => ∃ i : Nat, vl = [iv i] ∧ i ≤ a.pages.length ∧ a.pages.take i = b.pages.take i ∧ Fm (fun _ => False) w5 w6, fun vl _ => (a.pages.length - nth vl 0).toNat, ⟨0, rfl, by omega, by simp, Fm.refl _ _⟩, ?_⟩
  rintro _ w6 iv6 ⟨i, hvl, hile, htk, hf6⟩
  cases hvl
  have hRa6 := hRa5.keep hf6 (fun e => e)
  have hRb6 := hRb5.keep hf6 (fun e => e)
  have hA := hpagesa.keep hf6 (fun _ _ e => e)
  have hB := hpagesb.keep hf6 (fun _ _ e => e)
  by_cases hlt : i < a.pages.length
  · have d1 : decide ((i : Int) < (a.pages.length : Int)) = true := by rw [decide_eq_true_eq]; omega
    have e1 : IntKind.i64.wrap ((i : Int) + 1) = ((i + 1 : Nat) : Int) := by rw [wrap_id] <;> omega
    have hx : a.pages[i]? = some a.pages[i] := List.getElem?_eq_getElem hlt
    have hy : b.pages[i]? = some b.pages[i] := List.getElem?_eq_getElem (by omega)
    generalize a.pages[i] = x at hx
    generalize b.pages[i] = y at hy
    obtain ⟨ad, h1, h2, _⟩ := cells_ld pc2_len (by omega) hA hx
    obtain ⟨ad', h3, h4, _⟩ := cells_ld pc2_len (by omega) hB hy
    have hfd := Fm.drew (fun _ => False) w6
    have h2' := cellsV_keep h2 hfd (fun e => e)
    have h4' := cellsV_keep h4 hfd (fun e => e)
    simp only [RS0, RS1, RS2, RS3, RS4, RS5, hRa6.c14, hA.lenV, d1, h1, h2', hRb6.c14, h3, h4', true_and]
    refine RunS_ok (neq96 _ _ x y _) ?_
    simp only [RS0, RS1, RS2, RS3, RS4, RS5, true_and]
    cases hxy : decide (x = y) with
    | false =>
      rw [decide_eq_false_iff_not] at hxy
      rw [rc_ne Rc.pages (fun e => hxy (by rw [e, hy] at hx; exact (Option.some.inj hx).symm))]
      simp only [RS0, RS1, RS2, RS3, RS4, RS5, Bool.not_false]
      exact ⟨(by trivial), Fmf hF4 (Fmf hf5 (Fmf hf6 hfd))⟩
    | true =>
      rw [decide_eq_true_eq] at hxy
      simp only [RS0, RS1, RS2, RS3, RS4, RS5, Bool.not_true, e1]
      exact ⟨⟨i + 1, rfl, by omega, take_step htk hx hy hxy, Fmf hf6 hfd⟩, by simp only [nth_0]; omega⟩
  have hie : i = a.pages.length := by omega
  subst hie
  have d1 : decide (((a.pages.length : Nat) : Int) < (a.pages.length : Int)) = false := by simp
  have g14 := eq_end hd2 htk
  simp only [RS0, RS1, RS2, RS3, RS4, RS5, hRa6.c14, hA.lenV, d1]
  clear d1 hlt htk
  have htxnsa := hta.keep (Fmf hf5 hf6) (fun _ _ e => e)
  have htxnsb := htb.keep (Fmf hf5 hf6) (fun _ _ e => e)
  refine ⟨fun vl w7 => ∃ i : Nat, vl = [iv i] ∧ i ≤ a.txns.length ∧ a.txns.take i = b.txns.take i ∧ Fm (fun _ => False) w6 w7, fun vl _ => (a.txns.length - nth vl 0).toNat, ⟨0, rfl, by omega, by simp, Fm.refl _ _⟩, ?_⟩
  rintro _ w7 iv7 ⟨i, hvl, hile, htk, hf7⟩
  cases hvl
  have hRa7 := hRa6.keep hf7 (fun e => e)
  have hRb7 := hRb6.keep hf7 (fun e => e)
  have hA := htxnsa.keep hf7 (fun _ _ e => e)
  have hB := htxnsb.keep hf7 (fun _ _ e => e)
  by_cases hlt : i < a.txns.length
  · have d1 : decide ((i : Int) < (a.txns.length : Int)) = true := by rw [decide_eq_true_eq]; omega
    have e1 : IntKind.i64.wrap ((i : Int) + 1) = ((i + 1 : Nat) : Int) := by rw [wrap_id] <;> omega
    have hx : a.txns[i]? = some a.txns[i] := List.getElem?_eq_getElem hlt
    have hy : b.txns[i]? = some b.txns[i] := List.getElem?_eq_getElem (by omega)
    generalize a.txns[i] = x at hx
    generalize b.txns[i] = y at hy
    obtain ⟨ad, h1, h2, _⟩ := cells_ld pc2_len (by omega) hA hx
    obtain ⟨ad', h3, h4, _⟩ := cells_ld pc2_len (by omega) hB hy
    have hfd := Fm.drew (fun _ => False) w7
    have h2' := cellsV_keep h2 hfd (fun e => e)
    have h4' := cellsV_keep h4 hfd (fun e => e)
    simp only [RS0, RS1, RS2, RS3, RS4, RS5, hRa7.c15, hA.lenV, d1, h1, h2', hRb7.c15, h3, h4', true_and]
    refine RunS_ok (neq99 _ _ x y _) ?_
    simp only [RS0, RS1, RS2, RS3, RS4, RS5, true_and]
    cases hxy : decide (x = y) with
    | false =>
      rw [decide_eq_false_iff_not] at hxy
      rw [rc_ne Rc.txns (fun e => hxy (by rw [e, hy] at hx; exact (Option.some.inj hx).symm))]
      simp only [RS0, RS1, RS2, RS3, RS4, RS5, Bool.not_false]
      exact ⟨(by trivial), Fmf hF4 (Fmf (Fmf hf5 hf6) (Fmf hf7 hfd))⟩
    | true =>
      rw [decide_eq_true_eq] at hxy
      simp only [RS0, RS1, RS2, RS3, RS4, RS5, Bool.not_true, e1]
      exact ⟨⟨i + 1, rfl, by omega, take_step htk hx hy hxy, Fmf hf7 hfd⟩, by simp only [nth_0]; omega⟩
  have hie : i = a.txns.length := by omega
  subst hie
  have d1 : decide (((a.txns.length : Nat) : Int) < (a.txns.length : Int)) = false := by simp
  have g15 := eq_end hd3 htk
  simp only [RS0, RS1, RS2, RS3, RS4, RS5, hRa7.c15, hA.lenV, d1]
  refine ⟨?_, Fmf hF4 (Fmf hf5 (Fmf hf6 hf7))⟩
  congr 1
  symm
  rw [decide_eq_true_eq] at g0 g1 g2 g3 g4 g5 g6 g7 g8 g9 g10 g11 g12 g13 g14 g15 ⊢
  cases a; cases b
  simp only at g0 g1 g2 g3 g4 g5 g6 g7 g8 g9 g10 g11 g12 g13 g14 g15
  subst g0 g1 g2 g3 g4 g5 g6 g7 g8 g9 g10 g11 g12 g13 g14 g15
  rfl

end Go.Proofs.YtodnakepbdhfkaaDoor
