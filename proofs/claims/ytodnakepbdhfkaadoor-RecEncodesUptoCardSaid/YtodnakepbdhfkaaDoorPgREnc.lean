/- A page's bytes: the document's. -/
import Derived.Test.YtodnakepbdhfkaaDoorPgEnc
namespace Go.Proofs.YtodnakepbdhfkaaDoor
open Go.Al Go.Proofs
set_option linter.unusedVariables false
set_option linter.unusedSimpArgs false
set_option linter.unusedSectionVars false
set_option maxRecDepth 100000

theorem make_zeros (w : World) (n : Nat) (h : n ≤ 281474976710656) : ∃ w', (Instr.makeSlice 38 (.int .i64 n) (.int .i64 n)).run Tryd.prog w = .ok (.slice (some ⟨w.heap.size, 0, none⟩) n n) w' ∧ BRow w' w.heap.size 5 (zeros n) ∧ Fm (fun _ => False) w w' :=
  ⟨_, BRow.make B38 w n h, alloc_new w _, Fm.alloc _ _ _⟩
theorem conv_zeros {w : World} {g n : Nat} (h : BRow w g 5 (zeros n)) : (convert 38 9 (.slice (some ⟨g, 0, none⟩) n n)).run Tryd.prog w = .ok (stv (zeros n)) w := by
  have := BRow.conv B38 h (o := 0) (n := n) (by rw [zeros_len]; omega) n
  rw [List.drop_zero, List.take_of_length_le (by rw [zeros_len]; exact Nat.le_refl _)] at this
  exact this

set_option maxHeartbeats 4000000 in
theorem rencode_spec {w : World} {cs : Array Value} {p : Pg} (h : PgAs w cs p) : Cl Tryd.prog 24 [.agg cs] w fun r w' => r = encR p ∧ Fm (fun _ => False) w w' := by
  obtain ⟨v, rfl, hone, hc⟩ := h.ex
  have hin := h.ins
  have hclt := hc.lt
  unfold maxLen at hclt
  refine c24 ?_; unfold T24
  refine New_any ?_
  intro x1 w1 hx1 hs1 hw1 hf1
  replace hw1 : PB w1 x1 p v := hw1
  have hc1 := hc.keep hf1 (fun _ _ e => e)
  have hlen := hc.lenV
  have hall := hw1.all
  have rg : ∀ {P : Prop}, rangeB p = true → encR p = .tuple #[stv [], iv 4] := fun hr => encR_range hr
  simp only [RS0, RS1, RS2, RS3, RS4, RS5, hw1.c0]
  cases h1 : decide (p.lsn < 0) with
  | true => simp only [RS0, RS1, RS2, RS3, RS4, RS5]; exact ⟨(encR_range (by unfold rangeB; simp only [decide_eq_true_eq] at *; omega)).symm, hf1⟩
  | false =>
  simp only [RS0, RS1, RS2, RS3, RS4, RS5, hw1.c1]
  cases h2 : decide (p.kind < 1) with
  | true => simp only [RS0, RS1, RS2, RS3, RS4, RS5]; exact ⟨(encR_range (by unfold rangeB; simp only [decide_eq_true_eq] at *; omega)).symm, hf1⟩
  | false =>
  simp only [RS0, RS1, RS2, RS3, RS4, RS5, hw1.c1]
  cases h3 : decide (3 < p.kind) with
  | true => simp only [RS0, RS1, RS2, RS3, RS4, RS5]; exact ⟨(encR_range (by unfold rangeB; simp only [decide_eq_true_eq] at *; omega)).symm, hf1⟩
  | false =>
  simp only [RS0, RS1, RS2, RS3, RS4, RS5, hw1.c2]
  cases h4 : decide (p.level < 0) with
  | true => simp only [RS0, RS1, RS2, RS3, RS4, RS5]; exact ⟨(encR_range (by unfold rangeB; simp only [decide_eq_true_eq] at *; omega)).symm, hf1⟩
  | false =>
  simp only [RS0, RS1, RS2, RS3, RS4, RS5, hw1.c2]
  cases h5 : decide (255 < p.level) with
  | true => simp only [RS0, RS1, RS2, RS3, RS4, RS5]; exact ⟨(encR_range (by unfold rangeB; simp only [decide_eq_true_eq] at *; omega)).symm, hf1⟩
  | false =>
  simp only [RS0, RS1, RS2, RS3, RS4, RS5, hw1.c3]
  cases h6 : decide (p.right < 0) with
  | true => simp only [RS0, RS1, RS2, RS3, RS4, RS5]; exact ⟨(encR_range (by unfold rangeB; simp only [decide_eq_true_eq] at *; omega)).symm, hf1⟩
  | false =>
  simp only [RS0, RS1, RS2, RS3, RS4, RS5, hw1.c3]
  cases h7 : decide (4294967295 < p.right) with
  | true => simp only [RS0, RS1, RS2, RS3, RS4, RS5]; exact ⟨(encR_range (by unfold rangeB; simp only [decide_eq_true_eq] at *; omega)).symm, hf1⟩
  | false =>
  have hr : rangeB p = false := by unfold rangeB; simp only [decide_eq_false_iff_not] at *; omega
  have d1 : decide ((255 : Int) < (p.high.length : Int)) = decide (255 < p.high.length) := by rw [decide_eq_decide]; omega
  have d2 : decide ((255 : Int) < (p.items.length : Int)) = decide (255 < p.items.length) := by rw [decide_eq_decide]; omega
  simp only [RS0, RS1, RS2, RS3, RS4, RS5, hw1.c4, str_size, d1]
  cases h8 : decide (255 < p.high.length) with
  | true => simp only [RS0, RS1, RS2, RS3, RS4, RS5]; exact ⟨(encR_long hr (by unfold longB; rw [decide_eq_true_eq] at *; omega)).symm, hf1⟩
  | false =>
  simp only [RS0, RS1, RS2, RS3, RS4, RS5, hw1.c5, hlen, d2]
  cases h9 : decide (255 < p.items.length) with
  | true => simp only [RS0, RS1, RS2, RS3, RS4, RS5]; exact ⟨(encR_long hr (by unfold longB; rw [decide_eq_true_eq] at *; omega)).symm, hf1⟩
  | false =>
  simp only [RS0, RS1, RS2, RS3, RS4, RS5, hall]
  refine (rsize_spec (p := p) ⟨⟨v, rfl, hone, hc1⟩, h.small, h.ins⟩).mono ?_
  rintro _ w2 ⟨rfl, hf2⟩
  have hsb := size_bound h (by rw [decide_eq_false_iff_not] at h9; omega)
  have d3 : decide (512 < IntKind.i64.wrap (pSize p)) = decide (512 < pSize p) := by rw [wrap_nat (by omega), decide_eq_decide]; omega
  have hw2 := hw1.keep hf2 (fun e => e)
  have hF2 := Fmf hf1 hf2
  simp only [RS0, RS1, RS2, RS3, RS4, RS5, d3]
  cases h10 : decide (512 < pSize p) with
  | true => simp only [RS0, RS1, RS2, RS3, RS4, RS5]; exact ⟨(encR_long hr (by unfold longB; rw [decide_eq_true_eq] at *; omega)).symm, hF2⟩
  | false =>
  have hl : longB p = false := by unfold longB; simp only [decide_eq_false_iff_not] at *; omega
  have hok := pErr_zero hr hl
  obtain ⟨⟨b1, b2, b3, b4, b5, b6, b7⟩, b8, b9, b10⟩ := pErr_ok hok
  have hbl := pBody_len p
  have hf5 := Fm.drew (fun _ => False) w2
  have hP5 : PB w2.drew x1 p v := hw2.keep hf5 (fun e => e)
  have hF5 : Fm (fun _ => False) w w2.drew := Fmf hF2 hf5
  simp only [RS0, RS1, RS2, RS3, RS4, RS5]
  generalize hw5 : w2.drew = w5 at hP5 hF5
  refine ⟨fun w => PB w x1 p v, hP5, ?_⟩
  simp only [RS0, RS1, RS2, RS3, RS4, RS5, hw2.c0, hP5.c0, true_and]
  refine ⟨iv p.kind, fun w6 h6 => ?_, ?_⟩
  · simp only [RS0, RS1, RS2, RS3, RS4, RS5, h6.c1]; trivial
  refine ⟨iv p.level, fun w6 h6 => ?_, ?_⟩
  · simp only [RS0, RS1, RS2, RS3, RS4, RS5, h6.c2]; trivial
  refine ⟨iv p.right, fun w6 h6 => ?_, ?_⟩
  · simp only [RS0, RS1, RS2, RS3, RS4, RS5, h6.c3]; trivial
  refine ⟨v, fun w6 h6 => ?_, ?_⟩
  · simp only [RS0, RS1, RS2, RS3, RS4, RS5, h6.c5]; trivial
  simp only [RS0, RS1, RS2, RS3, RS4, RS5, hlen]
  refine ⟨stv p.high, fun w6 h6 => ?_, ?_⟩
  · simp only [RS0, RS1, RS2, RS3, RS4, RS5, h6.c4]; trivial
  simp only [RS0, RS1, RS2, RS3, RS4, RS5, str_size]
  refine ⟨stv p.high, fun w6 h6 => ?_, ?_⟩
  · simp only [RS0, RS1, RS2, RS3, RS4, RS5, h6.c4]; trivial
  have g1 : bigB p.lsn 8 = beN 8 p.lsn.toNat := bigB_nn (k := 8) b1 (by omega) (by omega)
  have g2 : bigB p.kind 1 = beN 1 p.kind.toNat := bigB_nn (k := 1) (by omega) (by omega) (by omega)
  have g3 : bigB p.level 1 = beN 1 p.level.toNat := bigB_nn (k := 1) b2 (by omega) (by omega)
  have g4 : bigB p.right 4 = beN 4 p.right.toNat := bigB_nn (k := 4) b3 (by omega) (by omega)
  have g5 : bigB (p.items.length : Nat) 1 = beN 1 p.items.length := bigB_of (n := p.items.length) (w := 1) (by omega) (by omega)
  have g6 : bigB (p.high.length : Nat) 1 = beN 1 p.high.length := bigB_of (n := p.high.length) (w := 1) (by omega) (by omega)
  refine (rbig_spec w5 hin.1 8).mono ?_
  rintro _ w6 ⟨rfl, hf6⟩
  have hP6 := hP5.keep hf6 (fun e => e)
  refine ⟨hP6, ?_⟩
  refine (rbig_spec w6 hin.2.1 1).mono ?_
  rintro _ w7 ⟨rfl, hf7⟩
  have hP7 := hP6.keep hf7 (fun e => e)
  refine ⟨hP7, ?_⟩
  rw [g1, g2, sadd (by rw [beN_len, beN_len]; omega)]
  try simp only [RS0, RS1, RS2, RS3, RS4, RS5]
  refine (rbig_spec w7 hin.2.2.1 1).mono ?_
  rintro _ w8 ⟨rfl, hf8⟩
  have hP8 := hP7.keep hf8 (fun e => e)
  refine ⟨hP8, ?_⟩
  rw [g3, sadd (by simp only [List.length_append, beN_len]; omega)]
  try simp only [RS0, RS1, RS2, RS3, RS4, RS5]
  refine (rbig_spec w8 hin.2.2.2.1 4).mono ?_
  rintro _ w9 ⟨rfl, hf9⟩
  have hP9 := hP8.keep hf9 (fun e => e)
  refine ⟨hP9, ?_⟩
  rw [g4, sadd (by simp only [List.length_append, beN_len]; omega)]
  try simp only [RS0, RS1, RS2, RS3, RS4, RS5]
  refine (rbig_spec w9 (n := (p.items.length : Nat)) (by unfold In; omega) 1).mono ?_
  rintro _ w10 ⟨rfl, hf10⟩
  have hP10 := hP9.keep hf10 (fun e => e)
  refine ⟨hP10, ?_⟩
  rw [g5, sadd (by simp only [List.length_append, beN_len]; omega)]
  try simp only [RS0, RS1, RS2, RS3, RS4, RS5]
  refine (rbig_spec w10 (n := (p.high.length : Nat)) (by unfold In; omega) 1).mono ?_
  rintro _ w11 ⟨rfl, hf11⟩
  have hP11 := hP10.keep hf11 (fun e => e)
  refine ⟨hP11, ?_⟩
  rw [g6, sadd (by simp only [List.length_append, beN_len]; omega)]
  try simp only [RS0, RS1, RS2, RS3, RS4, RS5]
  rw [sadd (by simp only [List.length_append, beN_len]; omega)]
  try simp only [RS0, RS1, RS2, RS3, RS4, RS5]
  have hhead : beN 8 p.lsn.toNat ++ beN 1 p.kind.toNat ++ beN 1 p.level.toNat ++ beN 4 p.right.toNat ++ beN 1 p.items.length ++ beN 1 p.high.length ++ p.high = pHead p := by
    simp only [pHead, List.append_assoc]
  rw [hhead]
  have hF11 : Fm (fun _ => False) w w11 := Fmf hF5 (Fmf (Fmf (Fmf hf6 hf7) (Fmf hf8 hf9)) (Fmf hf10 hf11))
  refine ⟨fun vs w15 => ∃ i : Nat, vs = [stv (pHead p ++ (p.items.take i).flatMap itB), iv i] ∧ i ≤ p.items.length ∧ PB w15 x1 p v ∧ Fm (fun _ => False) w w15, fun vs _ => (p.items.length - nth vs 1).toNat, ⟨0, by simp, by omega, hP11, hF11⟩, ?_⟩
  rintro _ w15 sv ivv ⟨i, hvs, hi, hP15, hF15⟩
  cases hvs
  have hpl : (pBody p).length = (pHead p).length + (p.items.flatMap itB).length := by rw [pBody, List.length_append]
  by_cases hlt : i < p.items.length
  · have e1 : decide ((i : Int) < (p.items.length : Int)) = true := by rw [decide_eq_true_eq]; omega
    have e2 : IntKind.i64.wrap ((i : Int) + 1) = ((i + 1 : Nat) : Int) := by rw [wrap_id] <;> omega
    have hx : p.items[i]? = some p.items[i] := List.getElem?_eq_getElem hlt
    have hxm : p.items[i] ∈ p.items := List.getElem_mem hlt
    generalize p.items[i] = x at hx hxm
    have hxs := item_short b10 x hxm
    have hfl := flat_le p.items (i + 1)
    rw [flat_take hx, List.length_append, itB_len] at hfl
    obtain ⟨ad, hix, _, hcx⟩ := (hc.keep hF15 (fun _ _ e => e)).at1 (i := i) (x := stv x) (by rw [List.getElem?_map, hx]; rfl) .i64
    have hf16 := Fm.drew (fun _ => False) w15
    have hP16 : PB w15.drew x1 p v := hP15.keep hf16 (fun e => e)
    have hcx16 : w15.drew.cell? ad = some (stv x) := hf16.cell' hcx (fun e => e)
    simp only [RS0, RS1, RS2, RS3, RS4, RS5, hP15.c5, hlen, e1]
    refine ⟨fun w => PB w x1 p v ∧ w.cell? ad = some (stv x), ⟨hP16, hcx16⟩, ?_⟩
    have hF16 := Fmf hF15 hf16
    generalize w15.drew = w16 at hP16 hcx16 hF16 hf16
    simp only [RS0, RS1, RS2, RS3, RS4, RS5, hP15.c5, hP16.c5, true_and, hix, hcx, hcx16, str_size]
    refine ⟨v, fun w6 h6 => ?_, ?_⟩
    · simp only [RS0, RS1, RS2, RS3, RS4, RS5, h6.1.c5]; trivial
    simp only [RS0, RS1, RS2, RS3, RS4, RS5, hix]
    refine ⟨stv x, fun w6 h6 => ?_, ?_⟩
    · simp only [RS0, RS1, RS2, RS3, RS4, RS5, h6.2]; trivial
    refine (rbig_spec w16 (n := (x.length : Nat)) (by unfold In; omega) 2).mono ?_
    rintro _ w17 ⟨rfl, hf17⟩
    have hP17 := hP16.keep hf17 (fun e => e)
    refine ⟨⟨hP17, hf17.cell' hcx16 (fun e => e)⟩, ?_⟩
    have g7 : bigB (x.length : Nat) 2 = beN 2 x.length := bigB_of (n := x.length) (w := 2) (by omega) (by omega)
    rw [g7, sadd (by simp only [List.length_append, beN_len]; omega)]
    try simp only [RS0, RS1, RS2, RS3, RS4, RS5]
    rw [sadd (by simp only [List.length_append, beN_len]; omega)]
    simp only [RS0, RS1, RS2, RS3, RS4, RS5, e2]
    refine ⟨⟨i + 1, ?_, by omega, hP17, Fmf hF16 hf17⟩, by simp only [nth_1]; omega⟩
    rw [flat_take hx, itB]
    simp only [List.append_assoc]
  · obtain rfl : i = p.items.length := by omega
    have e1 : decide (((p.items.length : Nat) : Int) < (p.items.length : Int)) = false := by simp
    rw [List.take_length, show pHead p ++ p.items.flatMap itB = pBody p from rfl]
    have e3 : IntKind.i64.wrap (508 - ((pBody p).length : Int)) = ((508 - (pBody p).length : Nat) : Int) := by rw [wrap_id] <;> omega
    simp only [RS0, RS1, RS2, RS3, RS4, RS5, hP15.c5, hlen, e1, str_size, e3]
    obtain ⟨w16, hm, hb16, hf16⟩ := make_zeros w15 (508 - (pBody p).length) (by omega)
    refine RunS_ok hm ?_
    refine RunS_ok (conv_zeros hb16) ?_
    rw [sadd (by rw [zeros_len]; omega), show pBody p ++ zeros (508 - (pBody p).length) = pText p from rfl]
    try simp only [RS0, RS1, RS2, RS3, RS4, RS5]
    have htl := pText_len b10
    refine (rsum_spec w16 (pText p) (by omega)).mono ?_
    rintro _ w16 ⟨rfl, rfl⟩
    obtain ⟨q1, q2⟩ := crc_in (pText p)
    simp only [RS0, RS1, RS2, RS3, RS4, RS5, cvI_int, q2]
    refine (rbig_spec w16 q1 4).mono ?_
    rintro _ w19 ⟨rfl, hf19⟩
    have g8 : bigB (crc (pText p) : Nat) 4 = beN 4 (crc (pText p)) := bigB_of (n := crc (pText p)) (w := 4) (by omega) (by omega)
    rw [g8, sadd (by rw [beN_len]; omega)]
    try simp only [RS0, RS1, RS2, RS3, RS4, RS5]
    exact ⟨(encR_ok hok).symm, Fmf (Fmf hF15 hf16) hf19⟩

end Go.Proofs.YtodnakepbdhfkaaDoor
