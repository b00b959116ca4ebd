/- What is wrong with a record, its bytes, by the document; the law of what is laid. -/
import Derived.Test.YtodnakepbdhfkaaDoorRcRef4
import Derived.Test.YtodnakepbdhfkaaDoorRcAwake
namespace Go.Proofs.YtodnakepbdhfkaaDoor
open Go.Al Go.Proofs
set_option linter.unusedVariables false
set_option linter.unusedSimpArgs false
set_option linter.unusedSectionVars false
set_option maxRecDepth 100000

set_option maxHeartbeats 8000000 in
theorem rcheckR_spec {w : World} {cs : Array Value} {r : Rc} (h : RcAs w cs r) : Cl Tryd.prog 40 [.agg cs] w fun v w' => v = iv (rCheck r).2 ∧ Fm (fun _ => False) w w' := by
  obtain ⟨vs, vm, vi, vp, vt, hcs, _, hs, hm, hi, hp, ht⟩ := h.ex
  have hk8 := h.kin
  have hbulk := h.bulk
  refine c40 ?_; unfold T40
  refine New_any ?_
  intro x1 w1 hx1 hs1 hw1 hf1
  have hR1 : RB w1 x1 r vs vm vi vp vt := ⟨by rw [← hcs]; exact hw1⟩
  have h1 := h.keep hf1
  rw [hcs] at h1
  unfold rCheck
  simp only [RS0, RS1, RS2, RS3, RS4, RS5, hR1.c3]
  cases e1 : decide (r.kind < 1) with
  | true =>
    simp only [RS0, RS1, RS2, RS3, RS4, RS5, Bool.true_or, cond_true]
    exact ⟨(by trivial), hf1⟩
  | false =>
  simp only [RS0, RS1, RS2, RS3, RS4, RS5, hR1.c3, Bool.false_or]
  cases e2 : decide (13 < r.kind) with
  | true =>
    simp only [RS0, RS1, RS2, RS3, RS4, RS5, cond_true]
    exact ⟨(by trivial), hf1⟩
  | false =>
  simp only [RS0, RS1, RS2, RS3, RS4, RS5, cond_false, hR1.all]
  refine (ranges_spec h1).mono ?_
  rintro _ w2 ⟨rfl, hf2⟩
  have hF2 := Fmf hf1 hf2
  have hR2 := hR1.keep hf2 (fun e => e)
  unfold rangeR
  cases e3 : decide (r.lsn < 1) || (rNums r).any badN with
  | true =>
    simp only [RS0, RS1, RS2, RS3, RS4, RS5, cond_true]
    exact ⟨(by trivial), hF2⟩
  | false =>
  have m1 : decide ((512 : Int) < (r.data.length : Int)) = decide (512 < r.data.length) := by rw [decide_eq_decide]; omega
  have m2 : decide ((255 : Int) < (r.slots.length : Int)) = decide (255 < r.slots.length) := by rw [decide_eq_decide]; omega
  have m3 : decide ((255 : Int) < (r.more.length : Int)) = decide (255 < r.more.length) := by rw [decide_eq_decide]; omega
  have m4 : decide ((4 : Int) < (r.imgs.length : Int)) = decide (4 < r.imgs.length) := by rw [decide_eq_decide]; omega
  have m5 : decide ((8192 : Int) < (r.pages.length : Int)) = decide (8192 < r.pages.length) := by rw [decide_eq_decide]; omega
  have m6 : decide ((1024 : Int) < (r.txns.length : Int)) = decide (1024 < r.txns.length) := by rw [decide_eq_decide]; omega
  simp only [RS0, RS1, RS2, RS3, RS4, RS5, cond_false, hR2.c10, str_size, m1]
  have long : ∀ {w'}, longR r = true → Fm (fun _ => False) w w' → Value.int .i64 3 = iv (bif longR r then (([] : Bs), (3 : Int)) else rInner r).2 ∧ Fm (fun _ => False) w w' := fun hl hf => ⟨by rw [hl]; rfl, hf⟩
  cases q1 : decide (512 < r.data.length) with
  | true => simp only [RS0, RS1, RS2, RS3, RS4, RS5]; exact long (by simp [longR, q1]) hF2
  | false =>
  simp only [RS0, RS1, RS2, RS3, RS4, RS5, hR2.c11, hs.lenV, m2]
  cases q2 : decide (255 < r.slots.length) with
  | true => simp only [RS0, RS1, RS2, RS3, RS4, RS5]; exact long (by simp [longR, q2]) hF2
  | false =>
  simp only [RS0, RS1, RS2, RS3, RS4, RS5, hR2.c12, hm.lenV, m3]
  cases q3 : decide (255 < r.more.length) with
  | true => simp only [RS0, RS1, RS2, RS3, RS4, RS5]; exact long (by simp [longR, q3]) hF2
  | false =>
  simp only [RS0, RS1, RS2, RS3, RS4, RS5, hR2.c13, hi.lenV, m4]
  cases q4 : decide (4 < r.imgs.length) with
  | true => simp only [RS0, RS1, RS2, RS3, RS4, RS5]; exact long (by simp [longR, q4]) hF2
  | false =>
  simp only [RS0, RS1, RS2, RS3, RS4, RS5, hR2.c14, hp.lenV, m5]
  cases q5 : decide (8192 < r.pages.length) with
  | true => simp only [RS0, RS1, RS2, RS3, RS4, RS5]; exact long (by simp [longR, q5]) hF2
  | false =>
  simp only [RS0, RS1, RS2, RS3, RS4, RS5, hR2.c15, ht.lenV, m6]
  cases q6 : decide (1024 < r.txns.length) with
  | true => simp only [RS0, RS1, RS2, RS3, RS4, RS5]; exact long (by simp [longR, q6]) hF2
  | false =>
  have hl : longR r = false := by unfold longR; rw [q1, q2, q3, q4, q5, q6]; rfl
  rw [hl, cond_false]
  simp only [RS0, RS1, RS2, RS3, RS4, RS5]
  clear long
  refine ⟨fun vl w3 => ∃ i : Nat, vl = [iv i] ∧ i ≤ r.imgs.length ∧ imgErr r.imgs = imgErr (r.imgs.drop i) ∧ (∀ m ∈ r.imgs.take i, pErr m.2 = 0) ∧ Fm (fun _ => False) w2 w3, fun vl _ => (r.imgs.length - nth vl 0).toNat, ⟨0, rfl, by omega, rfl, by simp, Fm.refl _ _⟩, ?_⟩
  rintro _ w3 iv3 ⟨i, hvl, hile, hie, hno, hf3⟩
  cases hvl
  have hF3 := Fmf hF2 hf3
  have hR3 := hR2.keep hf3 (fun e => e)
  have hi3 := hi.keep hF3
  by_cases hlt : i < r.imgs.length
  · have hx : r.imgs[i]? = some r.imgs[i] := List.getElem?_eq_getElem hlt
    have hdr := List.drop_eq_getElem_cons hlt
    generalize r.imgs[i] = m at hx hdr
    rw [hdr] at hie
    obtain ⟨ad, u, hix, hcv, hone, hpg⟩ := hi3.ld hx
    have d2 : decide ((i : Int) < (r.imgs.length : Int)) = true := by rw [decide_eq_true_eq]; omega
    have e2 : IntKind.i64.wrap ((i : Int) + 1) = ((i + 1 : Nat) : Int) := by rw [wrap_id] <;> omega
    simp only [RS0, RS1, RS2, RS3, RS4, RS5, hR3.c13, hi3.lenV, d2, hix, im_sub hcv]
    refine (rencode_spec hpg).mono ?_
    rintro _ w4 ⟨rfl, hf4⟩
    have he : encR m.2 = .tuple #[stv (pEnc m.2).1, iv (pErr m.2)] := by unfold encR; rw [pEnc_err]
    rw [he]
    rw [show imgErr (m :: r.imgs.drop (i + 1)) = bif decide (pErr m.2 = 0) then imgErr (r.imgs.drop (i + 1)) else pErr m.2 from rfl] at hie
    simp only [RS0, RS1, RS2, RS3, RS4, RS5, bne_dec]
    cases hz : decide (pErr m.2 = 0) with
    | false =>
      rw [hz, cond_false] at hie
      have hz' : decide (imgErr r.imgs = 0) = false := by rw [hie]; exact hz
      simp only [RS0, RS1, RS2, RS3, RS4, RS5, Bool.not_false]
      refine ⟨?_, Fmf hF3 hf4⟩
      unfold rInner
      rw [hz', cond_false, hie]
    | true =>
      rw [hz, cond_true] at hie
      have h0 : pErr m.2 = 0 := by simpa using hz
      simp only [RS0, RS1, RS2, RS3, RS4, RS5, Bool.not_true, e2]
      refine ⟨⟨i + 1, rfl, by omega, hie, ?_, Fmf hf3 hf4⟩, by simp only [nth_0]; omega⟩
      intro y hy
      rw [List.take_add_one, hx] at hy
      rcases List.mem_append.1 hy with hy | hy
      · exact hno y hy
      · simp at hy; subst hy; exact h0
  have hie2 : i = r.imgs.length := by omega
  subst hie2
  rw [List.drop_length] at hie
  rw [List.take_length] at hno
  have d2 : decide (((r.imgs.length : Nat) : Int) < (r.imgs.length : Int)) = false := by simp
  have hie0 : decide (imgErr r.imgs = 0) = true := by rw [hie]; rfl
  simp only [RS0, RS1, RS2, RS3, RS4, RS5, hR3.c13, hi3.lenV, d2, hR3.all]
  refine (rbody_spec ((h1.keep hf2).keep hf3) hl hno).mono ?_
  rintro _ w4 ⟨rfl, hf4⟩
  have hF4 := Fmf hF3 hf4
  unfold rInner
  rw [hie0, cond_true]
  generalize rBody r = B
  have d9 : decide ((65535 : Int) < (B.length : Int)) = decide (65535 < B.length) := by rw [decide_eq_decide]; omega
  simp only [RS0, RS1, RS2, RS3, RS4, RS5, str_size, d9]
  cases hbig : decide (65535 < B.length) with
  | true =>
    simp only [RS0, RS1, RS2, RS3, RS4, RS5, cond_true]
    exact ⟨(by trivial), hF4⟩
  | false =>
    simp only [RS0, RS1, RS2, RS3, RS4, RS5, cond_false]
    exact ⟨(by trivial), hF4⟩

set_option maxHeartbeats 4000000 in
theorem rencR_spec {w : World} {cs : Array Value} {r : Rc} (h : RcAs w cs r) : Cl Tryd.prog 38 [.agg cs] w fun v w' => v = .tuple #[stv (rEnc r).1, iv (rEnc r).2] ∧ Fm (fun _ => False) w w' := by
  refine c38 ?_; unfold T38
  refine New_any ?_
  intro x1 w1 hx1 hs1 hw1 hf1
  simp only [RS0, RS1, RS2, RS3, RS4, RS5, cellsV_blk hw1 h.size]
  refine (rcheckR_spec (h.keep hf1)).mono ?_
  rintro _ w2 ⟨rfl, hf2⟩
  have hF2 := Fmf hf1 hf2
  have hw2 := hf2.heap hw1 (fun e => e)
  unfold rEnc
  simp only [RS0, RS1, RS2, RS3, RS4, RS5, bne_dec]
  cases hz : decide ((rCheck r).2 = 0) with
  | false =>
    simp only [RS0, RS1, RS2, RS3, RS4, RS5, Bool.not_false, cond_false]
    exact ⟨(by trivial), hF2⟩
  | true =>
  rw [decide_eq_true_eq] at hz
  obtain ⟨hg, _, hb, hbl⟩ := rCheck_ok hz h.lsns
  have hd := hg.data
  have hs := hg.slots
  have hm := hg.more
  have hi := hg.imgs
  have hp := hg.pages
  have ht := hg.txns
  have hl : longR r = false := by simp only [longR, Bool.or_eq_false_iff, decide_eq_false_iff_not]; omega
  simp only [RS0, RS1, RS2, RS3, RS4, RS5, Bool.not_true, cellsV_blk hw2 h.size]
  refine (rbody_spec (h.keep hF2) hl hg.img).mono ?_
  rintro _ w3 ⟨rfl, hf3⟩
  have hF3 := Fmf hF2 hf3
  rw [hb, cond_true]
  generalize rBody r = s at hbl
  simp only [RS0, RS1, RS2, RS3, RS4, RS5, str_size]
  refine (rbig_spec w3 (by omega) 4).mono ?_
  rintro _ w4 ⟨rfl, hf4⟩
  refine (rsum_spec w4 s (by omega)).mono ?_
  rintro _ w5 ⟨rfl, rfl⟩
  obtain ⟨q1, q2⟩ := crc_in s
  simp only [RS0, RS1, RS2, RS3, RS4, RS5, cvI_int, q2]
  refine (rbig_spec w5 q1 4).mono ?_
  rintro _ w6 ⟨rfl, hf6⟩
  have g1 : bigB (s.length : Nat) 4 = beN 4 s.length := bigB_of (n := s.length) (w := 4) (by omega) (by omega)
  have g2 : bigB (crc s : Nat) 4 = beN 4 (crc s) := bigB_of (n := crc s) (w := 4) (by omega) (by omega)
  rw [g1, g2, sadd (by rw [beN_len, beN_len]; omega)]
  try simp only [RS0, RS1, RS2, RS3, RS4, RS5]
  rw [sadd (by rw [List.length_append, beN_len, beN_len]; omega)]
  try simp only [RS0, RS1, RS2, RS3, RS4, RS5]
  exact ⟨(by trivial), Fmf hF3 (Fmf hf4 hf6)⟩

set_option maxHeartbeats 4000000 in
theorem recenc_law {w : World} {ca cb : Array Value} {a b : Rc} (ha : RcAs w ca a) (hb : RcAs w cb b) : Cl Tryd.prog 11 [.agg ca, .agg cb] w fun v w' => v = .bool true ∧ Fm (fun _ => False) w w' := by
  refine c11 ?_; unfold T11
  refine New_any ?_
  intro x1 w1 hx1 hs1 hw1 hf1
  refine New_any ?_
  intro x2 w2 hx2 hs2 hw2 hf2
  have hF2 := Fmf hf1 hf2
  have hA : ∀ {w'}, Fm (fun _ => False) w2 w' → cellsV w' ⟨x1, 0, none⟩ 16 = some (.agg ca) := fun hf => cellsV_blk (hf.heap (hf2.heap hw1 (fun e => e)) (fun e => e)) ha.size
  have hB : ∀ {w'}, Fm (fun _ => False) w2 w' → cellsV w' ⟨x2, 0, none⟩ 16 = some (.agg cb) := fun hf => cellsV_blk (hf.heap hw2 (fun e => e)) hb.size
  have kA : ∀ {w'}, Fm (fun _ => False) w2 w' → RcAs w' ca a := fun hf => ha.keep (Fmf hF2 hf)
  have kB : ∀ {w'}, Fm (fun _ => False) w2 w' → RcAs w' cb b := fun hf => hb.keep (Fmf hF2 hf)
  simp only [RS0, RS1, RS2, RS3, RS4, RS5, hA (Fm.refl _ _)]
  refine (renc_spec (kA (Fm.refl _ _))).mono ?_
  rintro _ w3 ⟨rfl, hf3⟩
  simp only [RS0, RS1, RS2, RS3, RS4, RS5, hA hf3]
  refine (rencR_spec (kA hf3)).mono ?_
  rintro _ w4 ⟨rfl, hf4⟩
  have hF4 := Fmf hf3 hf4
  have hfd := Fm.drew (fun _ => False) w4
  have hF5 := Fmf hF4 hfd
  simp only [RS0, RS1, RS2, RS3, RS4, RS5]
  refine ⟨fun w' => Fm (fun _ => False) w2 w', hF5, ?_⟩
  simp only [RS0, RS1, RS2, RS3, RS4, RS5, decide_true, beq_self_eq_true, hA hF5, true_and]
  refine ⟨.agg ca, fun w9 h9 => ?_, ?_⟩
  · simp only [RS0, RS1, RS2, RS3, RS4, RS5, hA h9]; trivial
  try simp only [RS0, RS1, RS2, RS3, RS4, RS5]
  refine (check_spec (kA hF5)).mono ?_
  rintro _ w6 ⟨rfl, hf6⟩
  have hF6 := Fmf hF5 hf6
  refine ⟨hF6, ?_⟩
  try simp only [RS0, RS1, RS2, RS3, RS4, RS5]
  refine (rcheckR_spec (kA hF6)).mono ?_
  rintro _ w7 ⟨rfl, hf7⟩
  have hF7 := Fmf hF6 hf7
  refine ⟨hF7, ?_⟩
  simp only [RS0, RS1, RS2, RS3, RS4, RS5, beq_self_eq_true, hA hF7, hB hF7, true_and]
  refine ⟨.agg ca, fun w9 h9 => ?_, ?_⟩
  · simp only [RS0, RS1, RS2, RS3, RS4, RS5, hA h9]; trivial
  refine ⟨.agg cb, fun w9 h9 => ?_, ?_⟩
  · simp only [RS0, RS1, RS2, RS3, RS4, RS5, hB h9]; trivial
  try simp only [RS0, RS1, RS2, RS3, RS4, RS5]
  refine (rcsame_spec (kA hF7) (kB hF7)).mono ?_
  rintro _ w8 ⟨rfl, hf8⟩
  have hF8 := Fmf hF7 hf8
  refine ⟨hF8, ?_⟩
  try simp only [RS0, RS1, RS2, RS3, RS4, RS5]
  refine (rrsame_spec (kA hF8) (kB hF8)).mono ?_
  rintro _ w9 ⟨rfl, hf9⟩
  have hF9 := Fmf hF8 hf9
  simp only [RS0, RS1, RS2, RS3, RS4, RS5, beq_self_eq_true, hA hF9, true_and]
  refine (rcsame_spec (kA hF9) (kA hF9)).mono ?_
  rintro _ w10 ⟨rfl, hf10⟩
  simp only [RS0, RS1, RS2, RS3, RS4, RS5, decide_true]
  refine (recawake_spec w10).mono ?_
  rintro _ w11 ⟨rfl, hf11⟩
  simp only [RS0, RS1, RS2, RS3, RS4, RS5]
  exact ⟨(by trivial), Fmf hF2 (Fmf hF9 (Fmf hf10 hf11))⟩

end Go.Proofs.YtodnakepbdhfkaaDoor
