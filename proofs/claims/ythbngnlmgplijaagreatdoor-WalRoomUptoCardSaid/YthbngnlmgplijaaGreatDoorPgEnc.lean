/- A page's bytes: the program's and the document's. -/
import Derived.Test.YthbngnlmgplijaaGreatDoorPgPage
namespace Go.Proofs.YthbngnlmgplijaaGreatDoor
open Go.Al Go.Proofs
set_option linter.unusedVariables false
set_option linter.unusedSimpArgs false
set_option linter.unusedSectionVars false
set_option maxRecDepth 100000

def rangeB (p : Pg) : Bool := decide (p.lsn < 0 ∨ p.level < 0 ∨ p.right < 0 ∨ p.kind < 1 ∨ 3 < p.kind ∨ 255 < p.level ∨ 4294967295 < p.right)
def longB (p : Pg) : Bool := decide (255 < p.high.length ∨ 255 < p.items.length ∨ 512 < pSize p)
theorem pErr_eq (p : Pg) : pErr p = bif rangeB p then 4 else bif longB p then 3 else 0 := rfl
def encR (p : Pg) : Value := .tuple #[stv (pEnc p).1, iv (pEnc p).2]
theorem encR_range {p : Pg} (h : rangeB p = true) : encR p = .tuple #[stv [], iv 4] := by
  have : pErr p = 4 := by rw [pErr_eq, h]; rfl
  unfold encR; rw [pEnc_bad (by rw [this]; decide), this]
theorem encR_long {p : Pg} (h : rangeB p = false) (h2 : longB p = true) : encR p = .tuple #[stv [], iv 3] := by
  have : pErr p = 3 := by rw [pErr_eq, h, h2]; rfl
  unfold encR; rw [pEnc_bad (by rw [this]; decide), this]
theorem pErr_zero {p : Pg} (h : rangeB p = false) (h2 : longB p = false) : pErr p = 0 := by rw [pErr_eq, h, h2]; rfl
theorem encR_ok {p : Pg} (h : pErr p = 0) : encR p = .tuple #[stv (beN 4 (crc (pText p)) ++ pText p), iv 0] := by unfold encR; rw [pEnc_ok h]
theorem fold_min3 (a b c : Int) : foldV0 min2V [iv a, iv b, iv c] = some (iv (if c < (if b < a then b else a) then c else (if b < a then b else a))) := rfl
theorem bigB_nn {n : Int} {k : Nat} (h0 : 0 ≤ n) (h1 : 1 ≤ k) (h8 : k ≤ 8) : bigB n (k : Int) = beN k n.toNat := by
  have := bigB_of (n := n.toNat) h1 h8
  rw [Int.toNat_of_nonneg h0] at this; exact this
theorem sadd {a b : Bs} (h : a.length + b.length ≤ 9223372036854775807) : binV TypeDesc.string .add (stv a) (stv b) = some (stv (a ++ b)) := binV_sadd _ a b h
theorem flat_take {l : List Bs} {i : Nat} {x : Bs} (h : l[i]? = some x) : (l.take (i + 1)).flatMap itB = (l.take i).flatMap itB ++ itB x := by
  rw [List.take_add_one, h, List.flatMap_append]; simp
theorem flat_le (l : List Bs) (i : Nat) : ((l.take i).flatMap itB).length ≤ (l.flatMap itB).length := by
  have : l.flatMap itB = (l.take i).flatMap itB ++ (l.drop i).flatMap itB := by rw [← List.flatMap_append, List.take_append_drop]
  rw [this, List.length_append]; omega
theorem crc_in (l : Bs) : In (crc l : Nat) ∧ IntKind.i64.wrap (crc l : Nat) = ((crc l : Nat) : Int) := by
  have := crc_lt l
  exact ⟨by unfold In; omega, wrap_nat (by omega)⟩

set_option maxHeartbeats 4000000 in
theorem encode_spec {w : World} {cs : Array Value} {p : Pg} (h : PgAs w cs p) : Cl Tryz.prog 103 [.agg cs] w fun r w' => r = encR p ∧ Fm (fun _ => False) w w' := by
  obtain ⟨v, rfl, hone, hc⟩ := h.ex
  have hin := h.ins
  have hclt := hc.lt
  unfold maxLen at hclt
  refine c103 ?_; unfold T103
  refine New_any ?_
  intro x1 w1 hx1 hs1 hw1 hf1
  replace hw1 : PB w1 x1 p v := hw1
  have hc1 := hc.keep hf1 (fun _ _ e => e)
  have hlen := hc.lenV
  refine Jn_at (fun vs w2 => vs = [.bool (rangeB p)] ∧ w2 = w1) ?_ ?_
  · rintro _ w2 ⟨rfl, rfl⟩ _
    refine ⟨_, rfl, ?_⟩
    cases hr : rangeB p with
    | true =>
      simp only [RS0, RS1, RS2, RS3, RS4, RS5]
      exact ⟨(encR_range hr).symm, hf1⟩
    | false =>
    simp only [RS0, RS1, RS2, RS3, RS4, RS5]
    refine Jn_at (fun vs w3 => vs = [.bool (longB p)] ∧ PB w3 x1 p v ∧ Fm (fun _ => False) w2 w3) ?_ ?_
    · rintro _ w3 ⟨rfl, hw3, hf3⟩ _
      refine ⟨_, rfl, ?_⟩
      have hF3 := Fmf hf1 hf3
      cases hl : longB p with
      | true =>
        simp only [RS0, RS1, RS2, RS3, RS4, RS5]
        exact ⟨(encR_long hr hl).symm, hF3⟩
      | false =>
      simp only [RS0, RS1, RS2, RS3, RS4, RS5]
      have hok := pErr_zero hr hl
      obtain ⟨⟨b1, b2, b3, b4, b5, b6, b7⟩, b8, b9, b10⟩ := pErr_ok hok
      have hbl := pBody_len p
      refine New_any ?_
      intro b w4 hb hs4 hw4 hf4
      have hB4 := Bld.new hw4
      have hf5 := Fm.drew (fun _ => False) w4
      have hB5 := hB4.keep hf5
      have hP4 := hw3.keep hf4 (fun e => e)
      have hP5 : PB w4.drew x1 p v := hP4.keep hf5 (fun e => e)
      have hF5 : Fm (fun _ => False) w w4.drew := Fmf hF3 (Fmf hf4 hf5)
      have hxb : x1 < b ∧ w.heap.size ≤ b := by have := hw3.lt; have := hF3.size; omega
      generalize w4.drew = w5 at hB5 hP5 hF5
      have upB : ∀ {a c : World}, Fm (fun _ => False) a c → Fm (fun y => b ≤ y) a c := fun hf => hf.mono (fun _ _ e => e.elim)
      refine ⟨fun w => PB w x1 p v, hP5, ?_⟩
      simp only [RS0, RS1, RS2, RS3, RS4, RS5, hP4.c0, hP5.c0, true_and]
      refine ⟨iv p.kind, fun w6 h6 => ?_, ?_⟩
      · simp only [RS0, RS1, RS2, RS3, RS4, RS5, h6.c1]; trivial
      refine ⟨iv p.level, fun w6 h6 => ?_, ?_⟩
      · simp only [RS0, RS1, RS2, RS3, RS4, RS5, h6.c2]; trivial
      refine ⟨iv p.right, fun w6 h6 => ?_, ?_⟩
      · simp only [RS0, RS1, RS2, RS3, RS4, RS5, h6.c3]; trivial
      refine (big_spec w5 hin.1 8).mono ?_
      rintro _ w6 ⟨rfl, hf6⟩
      have hP6 := hP5.keep hf6 (fun e => e)
      refine ⟨hP6, ?_⟩
      refine (big_spec w6 hin.2.1 1).mono ?_
      rintro _ w7 ⟨rfl, hf7⟩
      have hP7 := hP6.keep hf7 (fun e => e)
      refine ⟨hP7, ?_⟩
      have g1 : bigB p.lsn 8 = beN 8 p.lsn.toNat := bigB_nn (k := 8) b1 (by omega) (by omega)
      have g2 : bigB p.kind 1 = beN 1 p.kind.toNat := bigB_nn (k := 1) (by omega) (by omega) (by omega)
      have g3 : bigB p.level 1 = beN 1 p.level.toNat := bigB_nn (k := 1) b2 (by omega) (by omega)
      have g4 : bigB p.right 4 = beN 4 p.right.toNat := bigB_nn (k := 4) b3 (by omega) (by omega)
      rw [g1, g2, sadd (by rw [beN_len, beN_len]; omega)]
      try simp only [RS0, RS1, RS2, RS3, RS4, RS5]
      refine (big_spec w7 hin.2.2.1 1).mono ?_
      rintro _ w8 ⟨rfl, hf8⟩
      have hP8 := hP7.keep hf8 (fun e => e)
      refine ⟨hP8, ?_⟩
      rw [g3, sadd (by simp only [List.length_append, beN_len]; omega)]
      try simp only [RS0, RS1, RS2, RS3, RS4, RS5]
      refine (big_spec w8 hin.2.2.2.1 4).mono ?_
      rintro _ w9 ⟨rfl, hf9⟩
      have hP9 := hP8.keep hf9 (fun e => e)
      rw [g4, sadd (by simp only [List.length_append, beN_len]; omega)]
      try simp only [RS0, RS1, RS2, RS3, RS4, RS5]
      have hF59 := Fmf (Fmf hf6 hf7) (Fmf hf8 hf9)
      have hB9 := hB5.keep hF59
      refine (bwrite_spec hB9 _ (by simp only [List.length_append, beN_len, List.length_nil]; omega)).mono ?_
      rintro _ w10 ⟨hB10, hf10⟩
      have hP10 := hP9.keep hf10 (by omega)
      have hf11 := Fm.drew (fun _ => False) w10
      have hB11 := hB10.keep hf11
      have hP11 := hP10.keep hf11 (fun e => e)
      have hF11 : Fm (fun _ => False) w w10.drew := Fmf (Fm.own (Fmf hF5 hF59) hf10 (fun y hy => by omega)) hf11
      generalize w10.drew = w11 at hB11 hP11 hF11
      refine ⟨fun w => PB w x1 p v, hP11, ?_⟩
      simp only [RS0, RS1, RS2, RS3, RS4, RS5, hP10.c5, hP11.c5, true_and, hlen]
      refine ⟨stv p.high, fun w6 h6 => ?_, ?_⟩
      · simp only [RS0, RS1, RS2, RS3, RS4, RS5, h6.c4]; trivial
      simp only [RS0, RS1, RS2, RS3, RS4, RS5, str_size]
      refine ⟨stv p.high, fun w6 h6 => ?_, ?_⟩
      · simp only [RS0, RS1, RS2, RS3, RS4, RS5, h6.c4]; trivial
      refine (big_spec w11 (n := (p.items.length : Nat)) (by unfold In; omega) 1).mono ?_
      rintro _ w12 ⟨rfl, hf12⟩
      have hP12 := hP11.keep hf12 (fun e => e)
      refine ⟨hP12, ?_⟩
      refine (big_spec w12 (n := (p.high.length : Nat)) (by unfold In; omega) 1).mono ?_
      rintro _ w13 ⟨rfl, hf13⟩
      have hP13 := hP12.keep hf13 (fun e => e)
      refine ⟨hP13, ?_⟩
      have g5 : bigB (p.items.length : Nat) 1 = beN 1 p.items.length := bigB_of (n := p.items.length) (w := 1) (by omega) (by omega)
      have g6 : bigB (p.high.length : Nat) 1 = beN 1 p.high.length := bigB_of (n := p.high.length) (w := 1) (by omega) (by omega)
      rw [g5, g6, sadd (by simp only [List.length_append, beN_len]; omega)]
      try simp only [RS0, RS1, RS2, RS3, RS4, RS5]
      rw [sadd (by simp only [List.length_append, beN_len]; omega)]
      try simp only [RS0, RS1, RS2, RS3, RS4, RS5]
      have hB13 := hB11.keep (Fmf hf12 hf13)
      refine (bwrite_spec hB13 _ (by simp only [List.length_append, beN_len, List.length_nil]; omega)).mono ?_
      rintro _ w14 ⟨hB14, hf14⟩
      have hP14 := hP13.keep hf14 (by omega)
      have hF14 : Fm (fun _ => False) w w14 := Fm.own (Fmf hF11 (Fmf hf12 hf13)) hf14 (fun y hy => by omega)
      have hhead : [] ++ (beN 8 p.lsn.toNat ++ beN 1 p.kind.toNat ++ beN 1 p.level.toNat ++ beN 4 p.right.toNat) ++ (beN 1 p.items.length ++ beN 1 p.high.length ++ p.high) = pHead p := by
        simp only [pHead, List.nil_append, List.append_assoc]
      rw [hhead] at hB14
      simp only [RS0, RS1, RS2, RS3, RS4, RS5, hP14.c5, hlen]
      refine ⟨fun vs w15 => ∃ i : Nat, vs = [iv i] ∧ i ≤ p.items.length ∧ Bld w15 b (pHead p ++ (p.items.take i).flatMap itB) ∧ PB w15 x1 p v ∧ Fm (fun _ => False) w w15, fun vs _ => (p.items.length - nth vs 0).toNat, ⟨0, rfl, by omega, by simpa using hB14, hP14, hF14⟩, ?_⟩
      rintro _ w15 ivv ⟨i, hvs, hi, hB15, hP15, hF15⟩
      cases hvs
      have hpl : (pBody p).length = (pHead p).length + (p.items.flatMap itB).length := by rw [pBody, List.length_append]
      by_cases hlt : i < p.items.length
      · have e1 : decide ((i : Int) < (p.items.length : Int)) = true := by rw [decide_eq_true_eq]; omega
        have e2 : IntKind.i64.wrap ((i : Int) + 1) = ((i + 1 : Nat) : Int) := by rw [wrap_id] <;> omega
        have hx : p.items[i]? = some p.items[i] := List.getElem?_eq_getElem hlt
        have hxm : p.items[i] ∈ p.items := List.getElem_mem hlt
        generalize p.items[i] = x at hx hxm
        have hxs := item_short b10 x hxm
        have hfl := flat_le p.items (i + 1)
        rw [flat_take hx, List.length_append, itB_len] at hfl
        obtain ⟨ad, hix, _, hcx⟩ := (hc.keep hF15 (fun _ _ e => e)).at1 (i := i) (x := stv x) (by rw [List.getElem?_map, hx]; rfl) .i64
        simp only [RS0, RS1, RS2, RS3, RS4, RS5, e1, hix, hcx, str_size]
        refine (big_spec w15 (n := (x.length : Nat)) (by unfold In; omega) 2).mono ?_
        rintro _ w16 ⟨rfl, hf16⟩
        have g7 : bigB (x.length : Nat) 2 = beN 2 x.length := bigB_of (n := x.length) (w := 2) (by omega) (by omega)
        rw [g7, sadd (by simp only [List.length_append, beN_len]; omega)]
        try simp only [RS0, RS1, RS2, RS3, RS4, RS5]
        refine (bwrite_spec (hB15.keep hf16) _ (by simp only [List.length_append, beN_len]; omega)).mono ?_
        rintro _ w17 ⟨hB17, hf17⟩
        simp only [RS0, RS1, RS2, RS3, RS4, RS5, e2]
        refine ⟨⟨i + 1, rfl, by omega, ?_, (hP15.keep hf16 (fun e => e)).keep hf17 (by omega), Fm.own (Fmf hF15 hf16) hf17 (fun y hy => by omega)⟩, by simp only [nth_0]; omega⟩
        rw [flat_take hx, ← List.append_assoc]; exact hB17
      · obtain rfl : i = p.items.length := by omega
        have e1 : decide (((p.items.length : Nat) : Int) < (p.items.length : Int)) = false := by simp
        rw [List.take_length, show pHead p ++ p.items.flatMap itB = pBody p from rfl] at hB15
        simp only [RS0, RS1, RS2, RS3, RS4, RS5, e1]
        refine (blen_spec hB15).mono ?_
        rintro _ w15 ⟨rfl, rfl⟩
        have e3 : IntKind.i64.wrap (508 - ((pBody p).length : Int)) = ((508 - (pBody p).length : Nat) : Int) := by rw [wrap_id] <;> omega
        simp only [RS0, RS1, RS2, RS3, RS4, RS5, e3]
        refine (repeat_spec w15 (508 - (pBody p).length) (by omega)).mono ?_
        rintro _ w16 ⟨rfl, hf16⟩
        refine (bwrite_spec (hB15.keep hf16) _ (by rw [zeros_len]; omega)).mono ?_
        rintro _ w17 ⟨hB17, hf17⟩
        rw [show pBody p ++ zeros (508 - (pBody p).length) = pText p from rfl] at hB17
        have hF17 := Fm.own (Fmf hF15 hf16) hf17 (fun y hy => by omega)
        refine (bstring_spec hB17).mono ?_
        rintro _ w18 ⟨rfl, hB18, hf18⟩
        have htl := pText_len b10
        refine (sum_spec w18 (pText p) (by omega)).mono ?_
        rintro _ w18 ⟨rfl, rfl⟩
        obtain ⟨q1, q2⟩ := crc_in (pText p)
        simp only [RS0, RS1, RS2, RS3, RS4, RS5, cvI_int, q2]
        refine (big_spec w18 q1 4).mono ?_
        rintro _ w19 ⟨rfl, hf19⟩
        refine (bstring_spec (hB18.keep hf19)).mono ?_
        rintro _ w20 ⟨rfl, hB20, hf20⟩
        have g8 : bigB (crc (pText p) : Nat) 4 = beN 4 (crc (pText p)) := bigB_of (n := crc (pText p)) (w := 4) (by omega) (by omega)
        rw [g8, sadd (by rw [beN_len]; omega)]
        try simp only [RS0, RS1, RS2, RS3, RS4, RS5]
        refine ⟨(encR_ok hok).symm, Fm.own (Fmf (Fm.own hF17 hf18 (fun y hy => by omega)) hf19) hf20 (fun y hy => by omega)⟩
    · intro jj hjj
      have d1 : decide ((255 : Int) < (p.high.length : Int)) = decide (255 < p.high.length) := by rw [decide_eq_decide]; omega
      have hall := hw1.all
      simp only [RS0, RS1, RS2, RS3, RS4, RS5, hw1.c4, str_size, d1]
      cases hd : decide (255 < p.high.length) with
      | true =>
        simp only [RS0, RS1, RS2, RS3, RS4, RS5]
        refine hjj _ _ ⟨?_, hw1, Fm.refl _ _⟩
        have : longB p = true := by unfold longB; rw [decide_eq_true_eq] at hd ⊢; exact .inl hd
        rw [this]
      | false =>
        simp only [RS0, RS1, RS2, RS3, RS4, RS5, hall]
        refine (fits_spec (p := p) ⟨⟨v, rfl, hone, hc1⟩, h.small, h.ins⟩).mono ?_
        rintro _ w3 ⟨rfl, hf3⟩
        simp only [RS0, RS1, RS2, RS3, RS4, RS5]
        refine hjj _ _ ⟨?_, hw1.keep hf3 (fun e => e), hf3⟩
        congr 2
        unfold fitsB longB
        rw [decide_eq_false_iff_not] at hd
        by_cases h1 : p.items.length ≤ 255
        · by_cases h2 : pSize p ≤ 512
          · simp [h1, h2]; omega
          · simp [h1, h2]; omega
        · simp [h1]; omega
  · intro jj hjj
    have fin : ∀ b : Bool, rangeB p = b → jj [.bool b] w1 := fun b hb => hjj _ _ ⟨by rw [hb], rfl⟩
    have hmin : decide ((if p.right < (if p.level < p.lsn then p.level else p.lsn) then p.right else (if p.level < p.lsn then p.level else p.lsn)) < 0) = decide (p.lsn < 0 ∨ p.level < 0 ∨ p.right < 0) := by
      rw [decide_eq_decide]; split <;> split <;> omega
    simp only [RS0, RS1, RS2, RS3, RS4, RS5, hw1.c0, hw1.c2, hw1.c3, fold_min3, hmin]
    cases h1 : decide (p.lsn < 0 ∨ p.level < 0 ∨ p.right < 0) with
    | true => simp only [RS0, RS1, RS2, RS3, RS4, RS5]; exact fin _ (by unfold rangeB; simp only [decide_eq_true_eq] at *; omega)
    | false =>
    simp only [RS0, RS1, RS2, RS3, RS4, RS5, hw1.c1]
    cases h2 : decide (p.kind < 1) with
    | true => simp only [RS0, RS1, RS2, RS3, RS4, RS5]; exact fin _ (by unfold rangeB; simp only [decide_eq_true_eq] at *; omega)
    | false =>
    simp only [RS0, RS1, RS2, RS3, RS4, RS5, hw1.c1]
    cases h3 : decide (3 < p.kind) with
    | true => simp only [RS0, RS1, RS2, RS3, RS4, RS5]; exact fin _ (by unfold rangeB; simp only [decide_eq_true_eq] at *; omega)
    | false =>
    simp only [RS0, RS1, RS2, RS3, RS4, RS5, hw1.c2]
    cases h4 : decide (255 < p.level) with
    | true => simp only [RS0, RS1, RS2, RS3, RS4, RS5]; exact fin _ (by unfold rangeB; simp only [decide_eq_true_eq] at *; omega)
    | false =>
    simp only [RS0, RS1, RS2, RS3, RS4, RS5, hw1.c3]
    refine fin _ ?_
    unfold rangeB
    rw [decide_eq_decide]
    simp only [decide_eq_false_iff_not] at *
    omega

end Go.Proofs.YthbngnlmgplijaaGreatDoor
