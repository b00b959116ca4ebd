/- Laid for one claim by slim.py out of: PgRDec RcTak RcDecR RcSame RcAwake RcRS PgViews RecDec AlCard. -/
import Derived.Test.YthbngnlmgplijaaGreatDoorRDeD
namespace Go.Proofs.YthbngnlmgplijaaGreatDoor
open Go.Al Go.Proofs
set_option linter.unusedVariables false
set_option linter.unusedSimpArgs false
set_option linter.unusedSectionVars false
set_option maxRecDepth 100000

theorem sum_iff {d : Bs} (h : d.length = 512) : decide (((ofN (d.take 4) : Nat) : Int) = ((crc (d.drop 4) : Nat) : Int)) = decide (beN 4 (crc (d.drop 4)) = d.take 4) := by
  have hl : (d.take 4).length = 4 := by rw [List.length_take]; omega
  have hc := crc_lt (d.drop 4)
  rw [ofN_short (by omega), decide_eq_decide]
  constructor
  · intro e
    have e : ofB (d.take 4) = crc (d.drop 4) := by omega
    rw [← e]; exact beN_ofB 4 _ hl
  · intro e
    rw [← e, ofB_beN, Nat.mod_eq_of_lt (by omega)]
/-- Read, it must be what is written again. -/
theorem again_iff {d : Bs} (h : d.length = 512) (h2 : beN 4 (crc (d.drop 4)) = d.take 4) {l : List Bs} {t : Bs} (h3 : pItems (dMany d) (dRest d) = some (l, t)) :
    pDec d = bif !decide (pErr (headP d l) = 0) || !decide ((pEnc (headP d l)).1 = d) then (pg0, 31) else (headP d l, 0) := by
  have hs := pDec_some h h2 h3
  cases hb : badD d t with
  | false =>
    rw [hb, cond_false] at hs
    have := enc_dec (d := d) (by rw [hs])
    rw [hs] at this
    simp only at this
    rw [hs, this.1, this.2.1]
    simp
  | true =>
    rw [hb, cond_true] at hs
    rw [hs]
    by_cases h4 : pErr (headP d l) = 0
    · by_cases h5 : (pEnc (headP d l)).1 = d
      · have h6 := dec_enc h4 (by unfold headP; simp only; omega)
        rw [h5, hs] at h6
        have := congrArg Prod.snd h6
        simp at this
      · rw [show decide ((pEnc (headP d l)).1 = d) = false by simpa using h5]; simp
    · rw [show decide (pErr (headP d l) = 0) = false by simpa using h4]; simp

set_option maxHeartbeats 8000000 in
theorem rdecode_spec (w : World) (d : Bs) (hd : d.length ≤ 9223372036854775806) : Cl Tryz.prog 127 [stv d] w fun r w' => ∃ cs, r = .tuple #[.agg cs, iv (pDec d).2] ∧ PgOw w' w.heap.size cs (pDec d).1 ∧ Fm (fun _ => False) w w' := by
  refine c127 ?_; unfold T127
  refine New_any ?_
  intro x2 w1 hx2 hs1 hw1 hf1
  have ret : ∀ (e : Int) (f : Fr), f 2 = pv x2 → f 3 = iv e → pDec d = (pg0, e) → 
      ((∀ w'' : World, w''.heap[x2]? = some (.cells (pcs pg0 (.slice none 0 0)) 61) → Fm (fun _ => False) w w'' → RetO (resL Tryz.prog f w'' [.cell 2 61, .tmp 3]) w'' (fun r w' => ∃ cs, r = .tuple #[.agg cs, iv (pDec d).2] ∧ PgOw w' w.heap.size cs (pDec d).1 ∧ Fm (fun _ => False) w w'))) := by
    intro e f h4 h5 h6 w'' h7 h8
    refine retPg (u := iv e) h7 rfl h4 h5 _ ?_
    rw [h6]
    exact ⟨_, rfl, PgOw.zero _ _, h8⟩
  have zone : ∀ u ∈ (pcs pg0 (.slice none 0 0)).toList, u.oneCell' = true := by intro u hu; simp [pcs] at hu; rcases hu with rfl | rfl | rfl | rfl | rfl | rfl <;> rfl
  have d0 : decide ((d.length : Int) = 512) = decide (d.length = 512) := by rw [decide_eq_decide]; omega
  simp only [RS0, RS1, RS2, RS3, RS4, RS5, str_size, bne_dec, d0]
  cases h0 : decide (d.length = 512) with
  | false =>
    have hne : d.length ≠ 512 := by simpa using h0
    simp only [RS0, RS1, RS2, RS3, RS4, RS5]
    refine RunS_ok (bld24z _) ?_
    refine St_all hw1 rfl rfl zone ?_
    intro w2 hw2 hs2 hf2
    exact ret 31 _ rfl rfl (pDec_len hne) w2 hw2 (Fm.own hf1 hf2 (by rintro y rfl; omega))
  | true =>
  have h512 : d.length = 512 := by simpa using h0
  have s1 : slS (stv d) (some (Value.int .i64 4)) none = some (stv (d.drop 4)) := slS_lo (i := 4) (by omega) .i64
  have s2 : slS (stv d) none (some (Value.int .i64 4)) = some (stv (d.take 4)) := slS_hi (i := 4) (by omega) .i64
  have hf2 := Fm.drew (fun _ => False) w1
  have hx2' : w1.drew.heap[x2]? = some (.cells #[iv 0, iv 0, iv 0, iv 0, stv [], .slice none 0 0] 61) := hw1
  have hF2 := Fmf hf1 hf2
  simp only [RS0, RS1, RS2, RS3, RS4, RS5, s1, s2]
  generalize w1.drew = w2 at hf2 hx2' hF2
  refine (rof_spec w2 (d.take 4) (by rw [List.length_take]; omega)).mono ?_
  rintro _ w2 ⟨rfl, rfl⟩
  refine (rsum_spec w2 (d.drop 4) (by rw [List.length_drop]; omega)).mono ?_
  rintro _ w3 ⟨rfl, rfl⟩
  obtain ⟨q1, q2⟩ := crc_in (d.drop 4)
  simp only [RS0, RS1, RS2, RS3, RS4, RS5, cvI_int, q2, bne_dec, sum_iff h512]
  cases hsum : decide (beN 4 (crc (d.drop 4)) = d.take 4) with
  | false =>
    have hne : beN 4 (crc (d.drop 4)) ≠ d.take 4 := by simpa using hsum
    simp only [RS0, RS1, RS2, RS3, RS4, RS5]
    refine RunS_ok (bld24z _) ?_
    refine St_all hx2' rfl rfl zone ?_
    intro w4 hw4 hs4 hf4
    exact ret 30 _ rfl rfl (pDec_sum h512 hne) w4 hw4 (Fm.own hF2 hf4 (by rintro y rfl; omega))
  | true =>
  have hse : beN 4 (crc (d.drop 4)) = d.take 4 := by simpa using hsum
  simp only [RS0, RS1, RS2, RS3, RS4, RS5]
  have hx2s : x2 = w.heap.size := hx2
  refine Jn_at (fun vs w4 => ∃ g4, vs = [pv g4] ∧ PB w4 g4 ⟨(dLsn d % 2 ^ 63 : Nat), dKind d, dLevel d, dRight d, [], []⟩ (.slice none 0 0) ∧ g4 ≠ x2 ∧ w.heap.size ≤ g4 ∧ w4.heap[x2]? = some (.cells #[iv 0, iv 0, iv 0, iv 0, stv [], .slice none 0 0] 61) ∧ Fm (fun _ => False) w w4) ?_ ?_
  · rintro _ w4 ⟨g4, rfl, hP4, hne4, hge4, hx4, hF4⟩ _
    refine ⟨_, rfl, ?_⟩
    have i19 : ixS (stv d) (Value.int .i64 19) = some (.int .u8 ((dHl d : Nat))) := ixS_getD (k := 19) (by omega)
    have i18 : ixS (stv d) (Value.int .i64 18) = some (.int .u8 ((dMany d : Nat))) := ixS_getD (k := 18) (by omega)
    have c19 : IntKind.i64.wrap (dHl d : Nat) = ((dHl d : Nat) : Int) := u8_i64 _
    have c18 : IntKind.i64.wrap (dMany d : Nat) = ((dMany d : Nat) : Int) := u8_i64 _
    have hhl : dHl d < 256 := UInt8.toNat_lt _
    have hmy : dMany d < 256 := UInt8.toNat_lt _
    have e0 : IntKind.i64.wrap (20 + (dHl d : Int)) = ((20 + dHl d : Nat) : Int) := by rw [wrap_id] <;> omega
    have s3 : slS (stv d) (some (Value.int .i64 20)) (some (Value.int .i64 ((20 + dHl d : Nat) : Int))) = some (stv (dHigh d)) := by
      have := slS_lh (l := d) (i := 20) (j := 20 + dHl d) (by omega) (by omega) .i64 .i64
      rw [show 20 + dHl d - 20 = dHl d by omega] at this; exact this
    have hg4l := hP4.lt
    have hz4 := hF4.size
    have hx2l := lt_of_heap hx4
    simp only [RS0, RS1, RS2, RS3, RS4, RS5, i18, cvI_int, c18, i19, c19, e0, s3]
    refine St_blk hP4 (by show 4 < 6; decide) rfl ?_
    intro w8 hw8 hs8 hf8
    replace hw8 : PB w8 g4 (headP d []) (.slice none 0 0) := hw8
    have hx8 := hf8.heap hx4 (fun e => hne4 e.symm)
    have hF8 : Fm (fun _ => False) w w8 := Fm.own hF4 hf8 (by rintro y rfl; omega)
    have hr0 : (dRest d).length = 492 - dHl d := by unfold dRest; rw [List.length_drop, List.length_drop]; omega
    have hdr0 : d.drop (20 + dHl d) = dRest d := by unfold dRest; rw [List.drop_drop]
    refine ⟨fun vs w9 => ∃ (i a : Nat) (l : List Bs) (s : Bs) (v : Value), vs = [iv a, iv i] ∧ i ≤ dMany d ∧ Mid d i l s ∧ a + s.length = 512 ∧ d.drop a = s ∧ PB w9 g4 (headP d l) v ∧ w9.ownsRow w.heap.size 9 1 v l.length (l.map stv) ∧ w9.heap[x2]? = some (.cells #[iv 0, iv 0, iv 0, iv 0, stv [], .slice none 0 0] 61) ∧ Fm (fun _ => False) w w9, fun vs _ => (dMany d - nth vs 1).toNat,
      ⟨0, 20 + dHl d, [], dRest d, _, rfl, by omega, Mid.zero h512, by omega, hdr0, hw8, World.ownsRow_nil _ _ _ _, hx8, hF8⟩, ?_⟩
    rintro _ w9 av ivv ⟨i, a, l, s, v, hvs, hi, hM, ha, hda, hP9, hO9, hx9, hF9⟩
    cases hvs
    have hll := hM.1
    have hg9 := hP9.lt
    have hx29 := lt_of_heap hx9
    have hz9 := hF9.size
    by_cases hlt : i < dMany d
    · have e1 : decide ((i : Int) < (dMany d : Int)) = true := by rw [decide_eq_true_eq]; omega
      have e2 : IntKind.i64.wrap ((i : Int) + 1) = ((i + 1 : Nat) : Int) := by rw [wrap_id] <;> omega
      have a2 : IntKind.i64.wrap ((a : Int) + 2) = ((a + 2 : Nat) : Int) := by rw [wrap_id] <;> omega
      by_cases h2 : 2 ≤ s.length
      · have e3 : decide ((512 : Int) < ((a + 2 : Nat) : Int)) = false := by rw [decide_eq_false_iff_not]; omega
        have htl : (s.take 2).length = 2 := by rw [List.length_take]; omega
        have s4 : slS (stv d) (some (Value.int .i64 (a : Int))) (some (Value.int .i64 ((a + 2 : Nat) : Int))) = some (stv (s.take 2)) := by
          have := slS_lh (l := d) (i := a) (j := a + 2) (by omega) (by omega) .i64 .i64
          rw [show a + 2 - a = 2 by omega, hda] at this; exact this
        simp only [RS0, RS1, RS2, RS3, RS4, RS5, e1, a2, e3, s4]
        refine (rof_spec w9 (s.take 2) (by omega)).mono ?_
        rintro _ w9 ⟨rfl, rfl⟩
        rw [ofN_short (by omega)]
        have hob := ofB_lt 2 (s.take 2) htl
        have hnl : (s.drop 2).length + 2 = s.length := by rw [List.length_drop]; omega
        have a3 : IntKind.i64.wrap (((a + 2 : Nat) : Int) + (ofB (s.take 2) : Nat)) = ((a + 2 + ofB (s.take 2) : Nat) : Int) := by rw [wrap_id] <;> omega
        by_cases h3 : ofB (s.take 2) ≤ (s.drop 2).length
        · have e4 : decide ((512 : Int) < ((a + 2 + ofB (s.take 2) : Nat) : Int)) = false := by rw [decide_eq_false_iff_not]; omega
          have s5 : slS (stv d) (some (Value.int .i64 ((a + 2 : Nat) : Int))) (some (Value.int .i64 ((a + 2 + ofB (s.take 2) : Nat) : Int))) = some (stv ((s.drop 2).take (ofB (s.take 2)))) := by
            have := slS_lh (l := d) (i := a + 2) (j := a + 2 + ofB (s.take 2)) (by omega) (by omega) .i64 .i64
            rw [show a + 2 + ofB (s.take 2) - (a + 2) = ofB (s.take 2) by omega, ← List.drop_drop, hda] at this; exact this
          have hM2 := hM.next hlt h2 h3
          have hs' : a + 2 + ofB (s.take 2) + ((s.drop 2).drop (ofB (s.take 2))).length = 512 := by rw [List.length_drop]; omega
          have hd' : d.drop (a + 2 + ofB (s.take 2)) = (s.drop 2).drop (ofB (s.take 2)) := by rw [← hda]; simp only [List.drop_drop]
          generalize hn : ofB (s.take 2) = n at hM2 hs' hd' s5 e4 a3
          generalize (s.drop 2).take n = it at hM2 s5
          generalize (s.drop 2).drop n = s' at hM2 hs' hd'
          have hf10 := Fm.drew (fun _ => False) w9
          have hP10 : PB w9.drew g4 (headP d l) v := hP9.keep hf10 (fun e => e)
          have hx10 : w9.drew.heap[x2]? = some (.cells #[iv 0, iv 0, iv 0, iv 0, stv [], .slice none 0 0] 61) := hx9
          have hO10 := own_keep hO9 hf10 (fun _ _ _ _ e => e)
          have hF10 := Fmf hF9 hf10
          simp only [RS0, RS1, RS2, RS3, RS4, RS5, a2, a3, e4]
          refine ⟨fun w => PB w g4 (headP d l) v, hP10, ?_⟩
          generalize w9.drew = w10 at hf10 hP10 hx10 hO10 hF10
          simp only [RS0, RS1, RS2, RS3, RS4, RS5]
          refine ⟨v, fun w6 h6 => ?_, ?_⟩
          · simp only [RS0, RS1, RS2, RS3, RS4, RS5, h6.c5]; trivial
          simp only [RS0, RS1, RS2, RS3, RS4, RS5, a2, a3, s5]
          have hz10 := hF10.size
          refine RunS_ok (bs22 it w10) ⟨hP10.keep (Fm.alloc (fun _ => False) _ _) (fun e => e), ?_⟩
          have hO11 := own_keep hO10 (Fm.alloc (fun _ => False) w10 (.cells #[stv it] 9)) (fun _ _ _ _ e => e)
          have hcw : CellsAt (w10.alloc (.cells #[stv it] 9)) (.slice (some ⟨w10.heap.size, 0, none⟩) 1 1) 1 1 [stv it] := ⟨⟨_, 1, rfl, Nat.le_refl _, by simp [maxLen], (fun e => by cases e), fun j u hj => ⟨_, rfl, by rw [add_none, Nat.zero_add, cell_at (alloc_new _ _)]; simpa using hj⟩⟩, rfl⟩
          have hf11 := Fm.alloc (fun _ => False) w10 (.cells #[stv it] 9)
          have hP11 := hP10.keep hf11 (fun e => e)
          have hx11 := hf11.heap hx10 (fun e => e)
          have hF11 := Fmf hF10 hf11
          generalize w10.alloc (.cells #[stv it] 9) = w11 at hO11 hcw hP11 hx11 hF11 hf11
          have hz11 := hF11.size
          have hg11 := hP11.lt
          obtain ⟨v12, w12, hr12, hO12, hf12⟩ := append_srcO E22 (by omega) hO11 hcw (by intro u hu; simp at hu; subst hu; rfl) 59 (by unfold maxLen; omega) (by omega) hz11
          refine RunS_ok hr12 ?_
          have hne12 : v.ownBlock ≠ some g4 := own_neB hO11 hP11 (by decide)
          have hnex : v.ownBlock ≠ some x2 := own_neB hO11 hx11 (by decide)
          have hP12 := hP11.keep hf12 (fun e => hne12 e)
          have hx12 := hf12.heap hx11 (fun e => hnex e)
          have hF12 : Fm (fun _ => False) w w12 := Fm.own hF11 hf12 (fun y hy => (own_lt hO11 y hy).1)
          have hne12' : v12.ownBlock ≠ some g4 := own_neB hO12 hP12 (by decide)
          try simp only [RS0, RS1, RS2, RS3, RS4, RS5]
          refine St_blk hP12 (by show 5 < 6; decide) (own_one hO12) ?_
          intro w13 hw13 hs13 hf13
          replace hw13 : PB w13 g4 (headP d (l ++ [it])) v12 := hw13
          simp only [RS0, RS1, RS2, RS3, RS4, RS5, a2, a3, e2]
          refine ⟨⟨i + 1, a + 2 + n, l ++ [it], s', v12, rfl, by omega, hM2, hs', hd', hw13, ?_, hf13.heap hx12 (fun e => hne4 e.symm), Fm.own hF12 hf13 (by rintro y rfl; omega)⟩, by simp only [nth_1]; omega⟩
          have : w13.ownsRow w.heap.size 9 1 v12 (l.length + 1) (l.map stv ++ [stv it]) := own_keep hO12 hf13 (fun k h1 h2 h3 e => hne12' (by rw [h3, e]))
          simpa using this
        · have e4 : decide ((512 : Int) < ((a + 2 + ofB (s.take 2) : Nat) : Int)) = true := by rw [decide_eq_true_eq]; omega
          simp only [RS0, RS1, RS2, RS3, RS4, RS5, a2, a3, e4]
          refine RunS_ok (bld24z _) ?_
          refine St_all hx9 rfl rfl zone ?_
          intro w12 hw12 hs12 hf12
          exact ret 31 _ rfl rfl (pDec_none h512 hse (hM.stop hlt (fun e => h3 e.2))) w12 hw12 (Fm.own hF9 hf12 (by rintro y rfl; omega))
      · have e3 : decide ((512 : Int) < ((a + 2 : Nat) : Int)) = true := by rw [decide_eq_true_eq]; omega
        simp only [RS0, RS1, RS2, RS3, RS4, RS5, e1, a2, e3]
        refine RunS_ok (bld24z _) ?_
        refine St_all hx9 rfl rfl zone ?_
        intro w12 hw12 hs12 hf12
        exact ret 31 _ rfl rfl (pDec_none h512 hse (hM.stop hlt (fun e => h2 e.1))) w12 hw12 (Fm.own hF9 hf12 (by rintro y rfl; omega))
    · have hie : i = dMany d := by omega
      rw [hie] at hM
      have e1 : decide ((i : Int) < (dMany d : Int)) = false := by rw [decide_eq_false_iff_not]; omega
      have hag := again_iff h512 hse hM.last
      have hAs : PgAs w9 (pcs (headP d l) v) (headP d l) := ⟨⟨v, rfl, own_one hO9, CellsAt.of_own hO9⟩, fun x hx => by have := hM.2.1 x hx; omega, headP_in h512 (by omega)⟩
      simp only [RS0, RS1, RS2, RS3, RS4, RS5, e1, hP9.all]
      refine (rencode_spec hAs).mono ?_
      rintro _ w10 ⟨rfl, hf10⟩
      have hP10 := hP9.keep hf10 (fun e => e)
      have hx10 := hf10.heap hx9 (fun e => e)
      have hF10 := Fmf hF9 hf10
      have hO10 := own_keep hO9 hf10 (fun _ _ _ _ e => e)
      have bad : pDec d = (pg0, 31) → RunS Tryz.prog (Instr.build 61 #[]) w10 (fun t93_149 w_150 =>
          St 6 w_150 (pv x2) t93_149 fun u_151 w_152 =>
          RetO (resL Tryz.prog (fun j => bif Nat.beq j 2 then pv x2 else bif Nat.beq j 3 then (Value.int IntKind.i64 31) else undef) w_152 [(ResultVar.cell 2 61), (ResultVar.tmp 3)]) w_152 (fun r w' => ∃ cs, r = .tuple #[.agg cs, iv (pDec d).2] ∧ PgOw w' w.heap.size cs (pDec d).1 ∧ Fm (fun _ => False) w w')) := by
        intro hb
        refine RunS_ok (bld24z _) ?_
        refine St_all hx10 rfl rfl zone ?_
        intro w12 hw12 hs12 hf12
        exact ret 31 _ rfl rfl hb w12 hw12 (Fm.own hF10 hf12 (by rintro y rfl; omega))
      unfold encR
      rw [pEnc_err]
      simp only [RS0, RS1, RS2, RS3, RS4, RS5, bne_dec]
      cases b1 : decide (pErr (headP d l) = 0) with
      | false =>
        rw [b1, Bool.not_false, Bool.true_or, cond_true] at hag
        simp only [RS0, RS1, RS2, RS3, RS4, RS5]
        exact bad hag
      | true =>
      rw [b1, Bool.not_true, Bool.false_or] at hag
      simp only [RS0, RS1, RS2, RS3, RS4, RS5, str_inj]
      cases b2 : decide ((pEnc (headP d l)).1 = d) with
      | false =>
        rw [b2, Bool.not_false, cond_true] at hag
        simp only [RS0, RS1, RS2, RS3, RS4, RS5]
        exact bad hag
      | true =>
      rw [b2, Bool.not_true, cond_false] at hag
      simp only [RS0, RS1, RS2, RS3, RS4, RS5, hP10.all]
      refine St_all hx10 rfl rfl (by intro u hu; simp [pcs] at hu; rcases hu with rfl | rfl | rfl | rfl | rfl | rfl <;> first | rfl | exact own_one hO10) ?_
      intro w12 hw12 hs12 hf12
      refine retPg (g := x2) (i := 2) (j := 3) (u := iv 0) hw12 rfl rfl rfl _ ?_
      have hnex : v.ownBlock ≠ some x2 := own_neB hO10 hx10 (by decide)
      rw [hag]
      refine ⟨_, rfl, ⟨⟨v, rfl, own_keep hO10 hf12 (fun k h1 h2 h3 e => hnex (by rw [h3, e]))⟩, fun x hx => by have := hM.2.1 x hx; omega, headP_in h512 (by omega)⟩, Fm.own hF10 hf12 (by rintro y rfl; omega)⟩
  · intro jj hjj
    have s4 : slS (stv d) (some (Value.int .i64 4)) (some (Value.int .i64 12)) = some (stv ((d.drop 4).take 8)) := slS_lh (i := 4) (j := 12) (by omega) (by omega) .i64 .i64
    have s5 : slS (stv d) (some (Value.int .i64 14)) (some (Value.int .i64 18)) = some (stv ((d.drop 14).take 4)) := slS_lh (i := 14) (j := 18) (by omega) (by omega) .i64 .i64
    have i12 : ixS (stv d) (Value.int .i64 12) = some (.int .u8 ((dKind d : Nat))) := ixS_getD (k := 12) (by omega)
    have i13 : ixS (stv d) (Value.int .i64 13) = some (.int .u8 ((dLevel d : Nat))) := ixS_getD (k := 13) (by omega)
    have c12 : IntKind.i64.wrap (dKind d : Nat) = ((dKind d : Nat) : Int) := u8_i64 _
    have c13 : IntKind.i64.wrap (dLevel d : Nat) = ((dLevel d : Nat) : Int) := u8_i64 _
    have o1 : ofN ((d.drop 4).take 8) = dLsn d % 2 ^ 63 := rfl
    have o2 : ofN ((d.drop 14).take 4) = dRight d := ofN_short (by rw [List.length_take]; omega)
    have l1 : ((d.drop 4).take 8).length ≤ 9223372036854775806 := by rw [List.length_take]; omega
    have l2 : ((d.drop 14).take 4).length ≤ 9223372036854775806 := by rw [List.length_take]; omega
    have hf4 := Fm.drew (fun _ => False) w3
    have hx4 : w3.drew.heap[x2]? = some (.cells #[iv 0, iv 0, iv 0, iv 0, stv [], .slice none 0 0] 61) := hx2'
    have hF4 := Fmf hF2 hf4
    have hz4 := hF4.size
    have hx2l := lt_of_heap hx4
    refine ⟨fun _ => True, trivial, ?_⟩
    simp only [RS0, RS1, RS2, RS3, RS4, RS5, s4, s5, i12, i13, cvI_int, c12, c13, true_and, and_true]
    generalize w3.drew = w4 at hf4 hx4 hF4 hz4 hx2l
    have fin : ∀ (g : Nat) (w5 w6 : World), w4.heap.size ≤ g → Fm (fun _ => False) w4 w5 → w5.heap[g]? = some (.cells #[iv 0, iv 0, iv 0, iv 0, stv [], .slice none 0 0] 61) → w6.heap[g]? = some (.cells (pcs ⟨(dLsn d % 2 ^ 63 : Nat), dKind d, dLevel d, dRight d, [], []⟩ (.slice none 0 0)) 61) → Fm (· = g) w5 w6 → jj [pv g] w6 := by
      intro g w5 w6 h1 h2 h3 h4 h5
      exact hjj _ _ ⟨g, rfl, h4, by omega, by omega, h5.heap (h2.heap hx4 (fun e => e)) (by omega), Fm.own (Fmf hF4 h2) h5 (by rintro y rfl; omega)⟩
    have lay : ∀ u ∈ (pcs ⟨(dLsn d % 2 ^ 63 : Nat), dKind d, dLevel d, dRight d, [], []⟩ (.slice none 0 0)).toList, u.oneCell' = true := by
      intro u hu; simp [pcs] at hu; rcases hu with rfl | rfl | rfl | rfl | rfl | rfl <;> rfl
    refine ⟨?_, ?_⟩
    · refine (rof_spec w4 _ l1).mono ?_
      rintro _ w4 ⟨rfl, rfl⟩
      rw [o1]
      refine ⟨?_, ?_⟩
      · refine (rof_spec w4 _ l2).mono ?_
        rintro _ w4 ⟨rfl, rfl⟩
        rw [o2]
        refine ⟨_, fun w5 _ => RunS_ok (bld24a _ _ _ _ _) ⟨rfl, rfl⟩, ?_⟩
        refine New_any ?_
        intro g w5 hg hs5 hw5 hf5
        refine St_all hw5 rfl rfl lay ?_
        intro w6 hw6 hs6 hf6
        exact fin g w5 w6 (by omega) hf5 hw5 hw6 hf6
      · refine New_any ?_
        intro g w5 hg hs5 hw5 hf5
        refine (rof_spec w5 _ l2).mono ?_
        rintro _ w5 ⟨rfl, rfl⟩
        rw [o2]
        refine RunS_ok (bld24a _ _ _ _ _) ⟨rfl, ?_⟩
        refine St_all hw5 rfl rfl lay ?_
        intro w6 hw6 hs6 hf6
        exact fin g w5 w6 (by omega) hf5 hw5 hw6 hf6
    · refine New_any ?_
      intro g w5 hg hs5 hw5 hf5
      refine (rof_spec w5 _ l1).mono ?_
      rintro _ w5 ⟨rfl, rfl⟩
      rw [o1]
      refine (rof_spec w5 _ l2).mono ?_
      rintro _ w5 ⟨rfl, rfl⟩
      rw [o2]
      refine RunS_ok (bld24a _ _ _ _ _) ⟨rfl, ?_⟩
      refine St_all hw5 rfl rfl lay ?_
      intro w6 hw6 hs6 hf6
      exact fin g w5 w6 (by omega) hf5 hw5 hw6 hf6

end Go.Proofs.YthbngnlmgplijaaGreatDoor

namespace Go.Proofs.YthbngnlmgplijaaGreatDoor
open Go.Al Go.Proofs
set_option linter.unusedVariables false
set_option linter.unusedSimpArgs false
set_option linter.unusedSectionVars false
set_option maxRecDepth 100000

def bt18 (x : Rc) : Bs := x.txns.flatMap prB
def bt17 (x : Rc) : Bs := encI (x.txns.length : Int) ++ bt18 x
def bt16 (x : Rc) : Bs := x.pages.flatMap prB ++ bt17 x
def bt15 (x : Rc) : Bs := encI (x.pages.length : Int) ++ bt16 x
def bt14 (x : Rc) : Bs := x.imgs.flatMap imgB ++ bt15 x
def bt13 (x : Rc) : Bs := encI (x.imgs.length : Int) ++ bt14 x
def bt12 (x : Rc) : Bs := listB x.more ++ bt13 x
def bt11 (x : Rc) : Bs := listB x.slots ++ bt12 x
def bt10 (x : Rc) : Bs := txtB x.data ++ bt11 x
theorem body_bt (x : Rc) : rBody x = encI x.lsn ++ (encI x.prev ++ (encI x.next ++ (encI x.kind ++ (encI x.xid ++ (encI x.page ++ (encI x.slot ++ (encI x.old ++ (encI x.new ++ (encI x.redo ++ bt10 x))))))))) := by
  simp only [rBody, headL, numsB, List.flatMap_cons, List.flatMap_nil, List.append_nil, List.append_assoc, bt10, bt11, bt12, bt13, bt14, bt15, bt16, bt17, bt18]
/-- What holds of whatever record the bytes are laid of. -/
def Tr (S : Bs) (P : Rc → Prop) : Prop := ∀ x, Good x → rBody x = S → P x
structure TS (w0 w : World) (x2 rb x5 : Nat) (S : Bs) (B : Rc → Bs) (r : Rc) (vs vm vi vp vt : Value) : Prop where
  res : w.heap[x2]? = some (.cells (rcs rc0 nl nl nl nl nl) 28)
  rd : ∃ at_ e, RR w rb S at_ e ∧ at_ ≤ S.length ∧ Tr S (fun x => e = 0 ∧ S.drop at_ = B x)
  x : RB w x5 r vs vm vi vp vt
  fm : Fm (fun _ => False) w0 w
  o1 : w0.heap.size ≤ x2
  o2 : x2 < rb
  o3 : rb < x5
  len : S.length ≤ 1000000
section
variable {w0 w w' : World} {x2 rb x5 : Nat} {S : Bs} {B : Rc → Bs} {r : Rc} {vs vm vi vp vt : Value}
theorem TS.conv (h : TS w0 w x2 rb x5 S B r vs vm vi vp vt) {B' : Rc → Bs} (hB : Tr S (fun x => B x = B' x)) : TS w0 w x2 rb x5 S B' r vs vm vi vp vt := by
  obtain ⟨at_, e, h1, h2, h3⟩ := h.rd
  exact ⟨h.res, ⟨at_, e, h1, h2, fun x hg hs => ⟨(h3 x hg hs).1, by rw [(h3 x hg hs).2, hB x hg hs]⟩⟩, h.x, h.fm, h.o1, h.o2, h.o3, h.len⟩
theorem TS.keepG {T : Nat → Prop} (h : TS w0 w x2 rb x5 S B r vs vm vi vp vt) (hf : Fm T w w') (hS : ∀ y, T y → x5 < y) : TS w0 w' x2 rb x5 S B r vs vm vi vp vt := by
  have := h.o1
  have := h.o2
  have := h.o3
  have hn : ∀ y, y ≤ x5 → ¬ T y := fun y hy e => by have := hS y e; omega
  obtain ⟨at_, e, h1, h2, h3⟩ := h.rd
  exact ⟨hf.heap h.res (hn _ (by omega)), ⟨at_, e, h1.keep hf (hn _ (by omega)), h2, h3⟩, h.x.keep hf (hn _ (by omega)), Fm.own h.fm hf (fun y hy => by have := hS y hy; omega), h.o1, h.o2, h.o3, h.len⟩
theorem TS.rdr (h : TS w0 w x2 rb x5 S B r vs vm vi vp vt) {B' : Rc → Bs} {at_ : Nat} {e : Int} (hr : RR w' rb S at_ e) (hat : at_ ≤ S.length) (hT : Tr S (fun x => e = 0 ∧ S.drop at_ = B' x)) (hf : Fm (· = rb) w w') : TS w0 w' x2 rb x5 S B' r vs vm vi vp vt := by
  have := h.o1
  have := h.o2
  have := h.o3
  exact ⟨hf.heap h.res (by omega), ⟨at_, e, hr, hat, hT⟩, h.x.keep hf (by omega), Fm.own h.fm hf (by rintro y rfl; omega), h.o1, h.o2, h.o3, h.len⟩
theorem TS.num {f : Rc → Int} (h : TS w0 w x2 rb x5 S (fun x => encI (f x) ++ B x) r vs vm vi vp vt) {most : Int} (hm : 0 ≤ most ∧ most ≤ 4611686018427387904) (hf : Tr S (fun x => 0 ≤ f x ∧ f x ≤ most)) {k : KV}
    (hk : ∀ (n : Int) (w' : World), TS w0 w' x2 rb x5 S B r vs vm vi vp vt → 0 ≤ n → n ≤ most → Tr S (fun x => n = f x) → Fm (· = rb) w w' → k (iv n) w') : Cl Tryz.prog 159 [pv rb, iv most] w k := by
  obtain ⟨at_, e, h1, h2, h3⟩ := h.rd
  refine rdn_spec h1 h2 h.len hm ?_
  intro n at' e' w' hR hat h0 hn hfm himp
  have q : Tr S (fun x => n = f x ∧ S.drop at' = B x ∧ e' = 0) := fun x hg hs => himp _ _ (h3 x hg hs).1 (h3 x hg hs).2 (hf x hg hs).1 (hf x hg hs).2
  exact hk n w' (h.rdr hR hat (fun x hg hs => ⟨(q x hg hs).2.2, (q x hg hs).2.1⟩) hfm) h0 hn (fun x hg hs => (q x hg hs).1) hfm
theorem TS.text {f : Rc → Bs} (h : TS w0 w x2 rb x5 S (fun x => txtB (f x) ++ B x) r vs vm vi vp vt) (hf : Tr S (fun x => (f x).length ≤ 512)) {k : KV}
    (hk : ∀ (s : Bs) (w' : World), TS w0 w' x2 rb x5 S B r vs vm vi vp vt → s.length ≤ 512 → Tr S (fun x => s = f x) → Fm (· = rb) w w' → k (stv s) w') : Cl Tryz.prog 160 [pv rb, iv 512] w k := by
  obtain ⟨at_, e, h1, h2, h3⟩ := h.rd
  refine rtx_spec h1 h2 h.len ⟨by omega, by omega⟩ ?_
  intro s at' e' w' hR hat hs' hfm himp
  have q : Tr S (fun x => s = f x ∧ S.drop at' = B x ∧ e' = 0) := fun x hg hs => himp _ _ (h3 x hg hs).1 (h3 x hg hs).2 (by have := hf x hg hs; omega)
  exact hk s w' (h.rdr hR hat (fun x hg hs => ⟨(q x hg hs).2.2, (q x hg hs).2.1⟩) hfm) (by omega) (fun x hg hs => (q x hg hs).1) hfm
theorem TS.list {f : Rc → List Int} (h : TS w0 w x2 rb x5 S (fun x => listB (f x) ++ B x) r vs vm vi vp vt) (hf : Tr S (fun x => (f x).length ≤ 255 ∧ ∀ n ∈ f x, okN n)) {k : KV}
    (hk : ∀ (v : Value) (L : List Int) (w' : World), TS w0 w' x2 rb x5 S B r vs vm vi vp vt → L.length ≤ 255 → (∀ n ∈ L, okN n) → w'.ownsRow w.heap.size 3 1 v L.length (L.map iv) → Tr S (fun x => L = f x) → Fm (· = rb) w w' → k v w') : Cl Tryz.prog 161 [pv rb, iv 255] w k := by
  obtain ⟨at_, e, h1, h2, h3⟩ := h.rd
  refine rli_spec h1 h2 h.len ?_
  intro v L at' e' w' hR hat hl hok ho hfm himp
  have q : Tr S (fun x => L = f x ∧ S.drop at' = B x ∧ e' = 0) := fun x hg hs => himp _ _ (h3 x hg hs).1 (h3 x hg hs).2 (hf x hg hs).1 (hf x hg hs).2
  exact hk v L w' (h.rdr hR hat (fun x hg hs => ⟨(q x hg hs).2.2, (q x hg hs).2.1⟩) hfm) hl hok ho (fun x hg hs => (q x hg hs).1) hfm
theorem TS.put (h : TS w0 w x2 rb x5 S B r vs vm vi vp vt) {j : Nat} {u : Value} {r' : Rc} {vs' vm' vi' vp' vt' : Value} (hj : j < 16) (hu : u.oneCell' = true) (e : (rcs r vs vm vi vp vt).setIfInBounds j u = rcs r' vs' vm' vi' vp' vt') {k : KV}
    (hk : ∀ w', TS w0 w' x2 rb x5 S B r' vs' vm' vi' vp' vt' → Fm (· = x5) w w' → k undef w') : St 1 w (.pointer (some ⟨x5, j, none⟩)) u k := by
  have := h.o1
  have := h.o2
  have := h.o3
  refine St_blk h.x.h (by show j < 16; exact hj) hu ?_
  intro w' hw' hs' hf'
  rw [e] at hw'
  obtain ⟨at_, e, h1, h2, h3⟩ := h.rd
  exact hk w' ⟨hf'.heap h.res (by omega), ⟨at_, e, h1.keep hf' (by omega), h2, h3⟩, ⟨hw'⟩, Fm.own h.fm hf' (by rintro y rfl; omega), h.o1, h.o2, h.o3, h.len⟩ hf'
/-- What is returned. -/
theorem ret_rc {w : World} {x2 : Nat} {cs0 cs : Array Value} (hr : w.heap[x2]? = some (.cells cs0 28)) (h0 : cs0.size = 16) (hn : cs.size = 16) (hone : ∀ u ∈ cs.toList, u.oneCell' = true) (b : Bool) {k : KV} (hk : ∀ w', Fm (· = x2) w w' → k (.tuple #[.agg cs, .bool b]) w') :
    St 16 w (.pointer (some ⟨x2, 0, none⟩)) (.agg cs) fun u_168 w_169 =>
        RetO (resL Tryz.prog (fun j => bif Nat.beq j 2 then .pointer (some ⟨x2, 0, none⟩) else bif Nat.beq j 3 then (Value.bool b) else undef) w_169 [(ResultVar.cell 2 28), (ResultVar.tmp 3)]) w_169 k := by
  refine St_all hr h0 hn hone ?_
  intro w' hw' hs' hf'
  have hj' : resV Tryz.prog (fun j => bif Nat.beq j 2 then .pointer (some ⟨x2, 0, none⟩) else bif Nat.beq j 3 then (Value.bool b) else undef) w' (.tmp 3) = some (.bool b) := rfl
  simp only [resL, resV_blk (f := (fun j => bif Nat.beq j 2 then .pointer (some ⟨x2, 0, none⟩) else bif Nat.beq j 3 then (Value.bool b) else undef)) (a := 2) rfl agg52 size52 hw' hn, hj', RetO, RetV]
  exact hk w' hf'
end
theorem bld188 (s : Bs) (w : World) : (Instr.build 188 #[(0, stv s)]).run Tryz.prog w = .ok (.agg #[stv s, iv 0, iv 0]) w := by kernel_rfl
theorem good_num {x : Rc} (h : Good x) {n : Int} (hn : n ∈ rNums x) : 0 ≤ n ∧ n ≤ 4611686018427387904 := h.nums n hn
def gIm (x : Rc) (i : Nat) : Int × Pg := x.imgs.getD i (0, pg0)
theorem drop_gIm {x : Rc} {i : Nat} (h : i < x.imgs.length) : (x.imgs.drop i).flatMap imgB = encI (gIm x i).1 ++ (txtB (trimZ (pEnc (gIm x i).2).1) ++ (x.imgs.drop (i + 1)).flatMap imgB) ∧ gIm x i ∈ x.imgs ∧ x.imgs.take (i + 1) = x.imgs.take i ++ [gIm x i] := by
  have e : gIm x i = x.imgs[i] := by unfold gIm; rw [List.getD_eq_getElem?_getD, List.getElem?_eq_getElem h]; rfl
  rw [e]
  refine ⟨?_, List.getElem_mem h, by rw [List.take_add_one, List.getElem?_eq_getElem h]; rfl⟩
  rw [List.drop_eq_getElem_cons h, List.flatMap_cons]
  unfold imgB
  rw [List.append_assoc]
def gPr (l : List (Int × Int)) (i : Nat) : Int × Int := l.getD i (0, 0)
theorem drop_gPr {l : List (Int × Int)} {i : Nat} (h : i < l.length) : (l.drop i).flatMap prB = encI (gPr l i).1 ++ (encI (gPr l i).2 ++ (l.drop (i + 1)).flatMap prB) ∧ gPr l i ∈ l ∧ l.take (i + 1) = l.take i ++ [gPr l i] := by
  have e : gPr l i = l[i] := by unfold gPr; rw [List.getD_eq_getElem?_getD, List.getElem?_eq_getElem h]; rfl
  rw [e]
  refine ⟨?_, List.getElem_mem h, by rw [List.take_add_one, List.getElem?_eq_getElem h]; rfl⟩
  rw [List.drop_eq_getElem_cons h, List.flatMap_cons]
  unfold prB
  rw [List.append_assoc]
theorem errCond {w : World} {rb : Nat} {c : Bool} {e : Int} (h2 : w.cell? ⟨rb, 2, none⟩ = some (iv e)) {K : Value → World → Prop} (hK : K (.bool (c && decide (e = 0))) w) :
    Gd c (fun kk => kk (pv rb) w) w fun t63_127 w_128 =>
    Gd c (fun kk => Pu (nilV t63_127) fun vv => kk vv w_128) w_128 fun t64_129 w_130 =>
    Gd c (fun kk => Pu (faV 2 t64_129) fun vv => kk vv w_130) w_130 fun t65_131 w_132 =>
    Gd c (fun kk => Ld w_132 t65_131 kk) w_132 fun t66_133 w_134 =>
    Gd c (fun kk => Pu (binV (TypeDesc.int IntKind.i64) .eql t66_133 (Value.int IntKind.i64 0)) fun vv => kk vv w_134) w_134 fun t67_135 w_136 =>
    Pu (pickV (.bool c) t67_135 (Value.bool false)) fun t68_137 => K t68_137 w_136 := by
  cases c with
  | false =>
    simp only [RS0, RS1, RS2, RS3, RS4, RS5]
    exact hK
  | true =>
    rw [Bool.true_and] at hK
    simp only [RS0, RS1, RS2, RS3, RS4, RS5, h2, beq_dec]
    exact hK
/-- What 'taken' gives. -/
def TkP (w : World) (S : Bs) (v : Value) (w' : World) : Prop := ∃ x vs vm vi vp vt ok, v = .tuple #[.agg (rcs x vs vm vi vp vt), .bool ok] ∧ Rows w' w.heap.size x vs vm vi vp vt ∧ Bnd x ∧ Tr S (fun y => ok = true ∧ y = x) ∧ Fm (fun _ => False) w w'
set_option maxHeartbeats 32000000 in
theorem taken_spec (w : World) (S : Bs) (hS : S.length ≤ 1000000) : Cl Tryz.prog 85 [stv S] w (TkP w S) := by
  refine c85 ?_; unfold T85
  refine New_any ?_
  intro x2 w1 hx2 hs1 hw1 hf1
  refine RunS_ok (bld188 S w1) ?_
  refine New_any ?_
  intro rb w2 hrb hs2 hw2 hf2
  refine New_any ?_
  intro x5 w3 hx5 hs3 hw3 hf3
  have hT0 : Tr S (fun x => (0 : Int) = 0 ∧ S.drop 0 = encI x.lsn ++ (encI x.prev ++ (encI x.next ++ (encI x.kind ++ (encI x.xid ++ (encI x.page ++ (encI x.slot ++ (encI x.old ++ (encI x.new ++ (encI x.redo ++ bt10 x)))))))))) := fun x hg hs => ⟨rfl, by rw [List.drop_zero, ← hs, body_bt]⟩
  have h0 : TS w w3 x2 rb x5 S _ rc0 nl nl nl nl nl := ⟨(Fmf hf2 hf3).heap hw1 (fun e => e), ⟨0, 0, ⟨hf3.heap hw2 (fun e => e)⟩, by omega, hT0⟩, ⟨hw3⟩, Fmf hf1 (Fmf hf2 hf3), by omega, by omega, by omega, hS⟩
  clear hw1 hw2 hw3 hf1 hf2 hf3 hT0
  refine h0.num (f := fun x => x.lsn) ⟨by omega, by omega⟩ (fun x hg _ => good_num hg (by unfold rNums; simp)) ?_
  intro a0 w4 g4 p0 q0 t0 _
  try simp only [RS0, RS1, RS2, RS3, RS4, RS5]
  refine g4.put (j := 0) (r' := ⟨a0, 0, 0, 0, 0, 0, 0, 0, 0, 0, [], [], [], [], [], []⟩) (vs' := nl) (vm' := nl) (vi' := nl) (vp' := nl) (vt' := nl) (by omega) rfl rfl ?_
  intro w5 h5 _
  refine h5.num (f := fun x => x.prev) ⟨by omega, by omega⟩ (fun x hg _ => good_num hg (by unfold rNums; simp)) ?_
  intro a1 w6 g6 p1 q1 t1 _
  try simp only [RS0, RS1, RS2, RS3, RS4, RS5]
  refine g6.put (j := 1) (r' := ⟨a0, a1, 0, 0, 0, 0, 0, 0, 0, 0, [], [], [], [], [], []⟩) (vs' := nl) (vm' := nl) (vi' := nl) (vp' := nl) (vt' := nl) (by omega) rfl rfl ?_
  intro w7 h7 _
  refine h7.num (f := fun x => x.next) ⟨by omega, by omega⟩ (fun x hg _ => good_num hg (by unfold rNums; simp)) ?_
  intro a2 w8 g8 p2 q2 t2 _
  try simp only [RS0, RS1, RS2, RS3, RS4, RS5]
  refine g8.put (j := 2) (r' := ⟨a0, a1, a2, 0, 0, 0, 0, 0, 0, 0, [], [], [], [], [], []⟩) (vs' := nl) (vm' := nl) (vi' := nl) (vp' := nl) (vt' := nl) (by omega) rfl rfl ?_
  intro w9 h9 _
  refine h9.num (f := fun x => x.kind) ⟨by omega, by omega⟩ (fun x hg _ => ⟨by have := hg.kind; omega, by have := hg.kind; omega⟩) ?_
  intro a3 w10 g10 p3 q3 t3 _
  have ek : cvI .u8 (iv a3) = some (.int .u8 a3) := by
    show some (Value.int .u8 (IntKind.u8.wrap a3)) = _
    obtain ⟨q, hq⟩ := Int.eq_ofNat_of_zero_le p3
    rw [hq, u8_wrap_nat, Nat.mod_eq_of_lt (by omega)]
  simp only [RS0, RS1, RS2, RS3, RS4, RS5, ek]
  refine g10.put (j := 3) (r' := ⟨a0, a1, a2, a3, 0, 0, 0, 0, 0, 0, [], [], [], [], [], []⟩) (vs' := nl) (vm' := nl) (vi' := nl) (vp' := nl) (vt' := nl) (by omega) rfl rfl ?_
  intro w11 h11 _
  refine h11.num (f := fun x => x.xid) ⟨by omega, by omega⟩ (fun x hg _ => good_num hg (by unfold rNums; simp)) ?_
  intro a4 w12 g12 p4 q4 t4 _
  try simp only [RS0, RS1, RS2, RS3, RS4, RS5]
  refine g12.put (j := 4) (r' := ⟨a0, a1, a2, a3, a4, 0, 0, 0, 0, 0, [], [], [], [], [], []⟩) (vs' := nl) (vm' := nl) (vi' := nl) (vp' := nl) (vt' := nl) (by omega) rfl rfl ?_
  intro w13 h13 _
  refine h13.num (f := fun x => x.page) ⟨by omega, by omega⟩ (fun x hg _ => good_num hg (by unfold rNums; simp)) ?_
  intro a5 w14 g14 p5 q5 t5 _
  try simp only [RS0, RS1, RS2, RS3, RS4, RS5]
  refine g14.put (j := 5) (r' := ⟨a0, a1, a2, a3, a4, a5, 0, 0, 0, 0, [], [], [], [], [], []⟩) (vs' := nl) (vm' := nl) (vi' := nl) (vp' := nl) (vt' := nl) (by omega) rfl rfl ?_
  intro w15 h15 _
  refine h15.num (f := fun x => x.slot) ⟨by omega, by omega⟩ (fun x hg _ => good_num hg (by unfold rNums; simp)) ?_
  intro a6 w16 g16 p6 q6 t6 _
  try simp only [RS0, RS1, RS2, RS3, RS4, RS5]
  refine g16.put (j := 6) (r' := ⟨a0, a1, a2, a3, a4, a5, a6, 0, 0, 0, [], [], [], [], [], []⟩) (vs' := nl) (vm' := nl) (vi' := nl) (vp' := nl) (vt' := nl) (by omega) rfl rfl ?_
  intro w17 h17 _
  refine h17.num (f := fun x => x.old) ⟨by omega, by omega⟩ (fun x hg _ => good_num hg (by unfold rNums; simp)) ?_
  intro a7 w18 g18 p7 q7 t7 _
  try simp only [RS0, RS1, RS2, RS3, RS4, RS5]
  refine g18.put (j := 7) (r' := ⟨a0, a1, a2, a3, a4, a5, a6, a7, 0, 0, [], [], [], [], [], []⟩) (vs' := nl) (vm' := nl) (vi' := nl) (vp' := nl) (vt' := nl) (by omega) rfl rfl ?_
  intro w19 h19 _
  refine h19.num (f := fun x => x.new) ⟨by omega, by omega⟩ (fun x hg _ => good_num hg (by unfold rNums; simp)) ?_
  intro a8 w20 g20 p8 q8 t8 _
  try simp only [RS0, RS1, RS2, RS3, RS4, RS5]
  refine g20.put (j := 8) (r' := ⟨a0, a1, a2, a3, a4, a5, a6, a7, a8, 0, [], [], [], [], [], []⟩) (vs' := nl) (vm' := nl) (vi' := nl) (vp' := nl) (vt' := nl) (by omega) rfl rfl ?_
  intro w21 h21 _
  refine h21.num (f := fun x => x.redo) ⟨by omega, by omega⟩ (fun x hg _ => good_num hg (by unfold rNums; simp)) ?_
  intro a9 w22 g22 p9 q9 t9 _
  try simp only [RS0, RS1, RS2, RS3, RS4, RS5]
  refine g22.put (j := 9) (r' := ⟨a0, a1, a2, a3, a4, a5, a6, a7, a8, a9, [], [], [], [], [], []⟩) (vs' := nl) (vm' := nl) (vi' := nl) (vp' := nl) (vt' := nl) (by omega) rfl rfl ?_
  intro w23 h23 _
  refine h23.text (f := fun x => x.data) (B := bt11) (fun x hg _ => hg.data) ?_
  intro d w24 g24 pd td _
  try simp only [RS0, RS1, RS2, RS3, RS4, RS5]
  refine g24.put (j := 10) (r' := ⟨a0, a1, a2, a3, a4, a5, a6, a7, a8, a9, d, [], [], [], [], []⟩) (vs' := nl) (vm' := nl) (vi' := nl) (vp' := nl) (vt' := nl) (by omega) rfl rfl ?_
  intro w25 h25 _
  refine h25.list (f := fun x => x.slots) (B := bt12) (fun x hg _ => ⟨hg.slots, fun n hn => hg.nums n (by unfold rNums; simp [hn])⟩) ?_
  intro vs sl w26 g26 psl qsl osl tsl fsl
  try simp only [RS0, RS1, RS2, RS3, RS4, RS5]
  have zs := g26.x.lt
  have zs0 := h25.x.lt
  refine g26.put (j := 11) (r' := ⟨a0, a1, a2, a3, a4, a5, a6, a7, a8, a9, d, sl, [], [], [], []⟩) (vs' := vs) (vm' := nl) (vi' := nl) (vp' := nl) (vt' := nl) (by omega) (own_one osl) rfl ?_
  intro w27 h27 fs1
  have osl1 := own_keep osl fs1 (fun k hk _ _ e => by omega)
  refine h27.list (f := fun x => x.more) (B := bt13) (fun x hg _ => ⟨hg.more, fun n hn => hg.nums n (by unfold rNums; simp [hn])⟩) ?_
  intro vm mo w28 g28 pmo qmo omo tmo fmo
  try simp only [RS0, RS1, RS2, RS3, RS4, RS5]
  have zm := h27.x.lt
  have ho3 := h27.o3
  have osl2 := own_keep osl1 fmo (fun k hk _ _ e => by omega)
  refine g28.put (j := 12) (r' := ⟨a0, a1, a2, a3, a4, a5, a6, a7, a8, a9, d, sl, mo, [], [], []⟩) (vs' := vs) (vm' := vm) (vi' := nl) (vp' := nl) (vt' := nl) (by omega) (own_one omo) rfl ?_
  intro w29 h29 fm1
  have omo1 := own_keep omo fm1 (fun k hk _ _ e => by omega)
  have osl3 := own_keep osl2 fm1 (fun k hk _ _ e => by omega)
  have hrow : Rows w29 (x5 + 1) ⟨a0, a1, a2, a3, a4, a5, a6, a7, a8, a9, d, sl, mo, [], [], []⟩ vs vm nl nl nl := ⟨own_base osl3 (by omega), own_base omo1 (by omega), ⟨[], rfl, World.ownsRow_nil _ _ _ _, by simp⟩, World.ownsRow_nil _ _ _ _, World.ownsRow_nil _ _ _ _⟩
  clear osl osl1 osl2 osl3 omo omo1 fs1 fmo fm1 fsl
  have hnums : ∀ n ∈ [a0, a1, a2, a9, a4, a5, a6, a7, a8], okN n := by
    intro n hn
    simp at hn
    rcases hn with rfl | rfl | rfl | rfl | rfl | rfl | rfl | rfl | rfl <;> exact ⟨by assumption, by assumption⟩
  -- the images
  refine h29.num (f := fun x => (x.imgs.length : Int)) (B := bt14) ⟨by omega, by omega⟩ (fun x hg _ => ⟨by omega, by have := hg.imgs; omega⟩) ?_
  intro n4 w34 g34 pn qn tn fn4
  obtain ⟨N, rfl⟩ := Int.eq_ofNat_of_zero_le pn
  have hrow34 := hrow.keep fn4 (fun y e => by omega)
  refine ⟨fun vl w' => ∃ (i : Nat) (L : List (Int × Pg)) (vi : Value), vl = [iv (i : Int)] ∧ i ≤ N ∧ L.length = i ∧ TS w w' x2 rb x5 S (fun x => (x.imgs.drop i).flatMap imgB ++ bt15 x) ⟨a0, a1, a2, a3, a4, a5, a6, a7, a8, a9, d, sl, mo, L, [], []⟩ vs vm vi nl nl ∧ Rows w' (x5 + 1) ⟨a0, a1, a2, a3, a4, a5, a6, a7, a8, a9, d, sl, mo, L, [], []⟩ vs vm vi nl nl ∧ Tr S (fun x => L = x.imgs.take i) ∧ ∀ m ∈ L, okN m.1 ∧ m.2.lsn ≤ 9223372036854775807, fun vl _ => (N - nth vl 0).toNat,
    ⟨0, [], nl, rfl, by omega, rfl, g34, hrow34, fun x _ _ => rfl, by simp⟩, ?_⟩
  clear hrow34 hrow g34 fn4
  rintro _ w35 iv35 ⟨i, L, vi, hvl, hi, hL, g35, hr35, tL, hLok⟩
  cases hvl
  obtain ⟨at35, e35, rr35, le35, tr35⟩ := g35.rd
  simp only [binV_lss, Pu_some, isB_t]
  refine errCond rr35.c2 ?_
  cases hgo : (decide ((i : Int) < (N : Int)) && decide (e35 = 0)) with
  | true =>
    rw [Bool.and_eq_true, decide_eq_true_eq, decide_eq_true_eq] at hgo
    obtain ⟨hlt, rfl⟩ := hgo
    have d1 : decide ((i : Int) < (N : Int)) = true := by rw [decide_eq_true_eq]; omega
    have ei : IntKind.i64.wrap ((i : Int) + 1) = ((i + 1 : Nat) : Int) := by rw [wrap_id] <;> omega
    have hil : Tr S (fun x => i < x.imgs.length) := fun x hg hs => by have := tn x hg hs; omega
    have g36 := g35.conv (B' := fun x => encI (gIm x i).1 ++ (txtB (trimZ (pEnc (gIm x i).2).1) ++ ((x.imgs.drop (i + 1)).flatMap imgB ++ bt15 x))) (fun x hg hs => by
      dsimp only
      rw [(drop_gIm (hil x hg hs)).1, List.append_assoc, List.append_assoc])
    simp only [RS0, RS1, RS2, RS3, RS4, RS5]
    refine g36.num (f := fun x => (gIm x i).1) ⟨by omega, by omega⟩ (fun x hg hs => good_num hg (by unfold rNums; simp only [List.mem_append, List.mem_map]; exact .inl (.inl (.inr ⟨_, (drop_gIm (hil x hg hs)).2.1, rfl⟩)))) ?_
    intro pa w37 g37 pp qp tp f37
    have hr37 := hr35.keep f37 (fun y e => by have := g35.o3; omega)
    refine g37.text (f := fun x => trimZ (pEnc (gIm x i).2).1) (fun x hg hs => by
      exact (trim_pad (pEnc_len (hg.img _ (drop_gIm (hil x hg hs)).2.1))).2) ?_
    intro tt w38 g38 ptt ttt f38
    have hr38 := hr37.keep f38 (fun y e => by have := g35.o3; omega)
    have e5 : IntKind.i64.wrap (512 - (tt.length : Int)) = ((512 - tt.length : Nat) : Int) := by rw [wrap_id] <;> omega
    obtain ⟨w39, hr39a, hz39, hf39⟩ := make_zeros w38 (512 - tt.length) (by omega)
    simp only [RS0, RS1, RS2, RS3, RS4, RS5, str_size, e5]
    refine RunS_ok hr39a ?_
    refine RunS_ok (conv_zeros hz39) ?_
    have g39 := g38.keepG hf39 (fun _ e => e.elim)
    have hr39 := hr38.keep hf39 (fun _ e => e.elim)
    rw [sadd (by rw [zeros_len]; omega)]
    try simp only [RS0, RS1, RS2, RS3, RS4, RS5]
    have hpad : tt ++ zeros (512 - tt.length) = padZ tt := rfl
    have hpl : (padZ tt).length = 512 := by unfold padZ; rw [List.length_append, zeros_len]; omega
    rw [hpad]
    refine (rdecode_spec w39 (padZ tt) (by omega)).mono ?_
    rintro _ w40 ⟨pc, rfl, hO40, hq40⟩
    have hdec : Tr S (fun x => pDec (padZ tt) = ((gIm x i).2, 0) ∧ (gIm x i).2.lsn ≤ 9223372036854775807) := fun x hg hs => by
      have hm := (drop_gIm (hil x hg hs)).2.1
      have hle := hg.lsns _ hm
      rw [ttt x hg hs, (trim_pad (pEnc_len (hg.img _ hm))).1]
      exact ⟨dec_enc (hg.img _ hm) hle, hle⟩
    have hplsn : (pDec (padZ tt)).2 = 0 → (pDec (padZ tt)).1.lsn ≤ 9223372036854775807 := fun h => (enc_dec h).2.2
    generalize pDec (padZ tt) = pd at hO40 hdec hplsn
    have g40 := g39.keepG hq40 (fun _ e => e.elim)
    have hr40 := hr39.keep hq40 (fun _ e => e.elim)
    have hA40 := hO40.as
    have hz40 := hq40.size
    have hx39 := g39.x.lt
    simp only [RS0, RS1, RS2, RS3, RS4, RS5]
    refine New_any ?_
    intro x9 w41 hx9 hs41 hw41 hf41
    refine St_all hw41 rfl hA40.size hA40.one ?_
    intro w42 hw42 hs42 hf42
    have hf4042 : Fm (fun _ => False) w40 w42 := Fm.own hf41 hf42 (by rintro y rfl; omega)
    have g42 := g40.keepG hf4042 (fun _ e => e.elim)
    have hr42 := hr40.keep hf4042 (fun _ e => e.elim)
    have hO42 := hO40.keep hf4042
    simp only [RS0, RS1, RS2, RS3, RS4, RS5, bne_dec]
    cases hz1 : decide (pd.2 = 0) with
    | false =>
      rw [decide_eq_false_iff_not] at hz1
      simp only [RS0, RS1, RS2, RS3, RS4, RS5]
      refine RunS_ok (bld52z _) ?_
      refine ret_rc g42.res rfl rfl (rcs_one rfl rfl rfl rfl rfl) false ?_
      intro w43 hf43
      have := g42.o1
      exact ⟨rc0, nl, nl, nl, nl, nl, false, rfl, rows0 _ _, bnd0, fun x hg hs => absurd (congrArg Prod.snd (hdec x hg hs).1) hz1, Fm.own g42.fm hf43 (by rintro y rfl; omega)⟩
    | true =>
    rw [decide_eq_true_eq] at hz1
    obtain ⟨pv_, rfl, hov⟩ := hO42.ex
    have hps : ∃ a n c, pv_ = .slice a n c := by
      rcases hov.2 with ⟨rfl, _⟩ | ⟨g, cap, cur, rfl, _⟩ <;> exact ⟨_, _, _, rfl⟩
    obtain ⟨pa1, pn1, pc1, rfl⟩ := hps
    simp only [RS0, RS1, RS2, RS3, RS4, RS5, g42.x.c13, cellsV_blk hw42 hA40.size]
    refine RunS_ok (bld90 _ _ _ _ _ _) ?_
    refine RunS_ok (bs48 _ _ _ _ _ _) ?_
    have hf44 := Fm.alloc (fun _ => False) w42 (.cells (imC (pa, pd.1, .slice pa1 pn1 pc1)).toArray 118)
    have hn44 := alloc_new w42 (.cells (imC (pa, pd.1, .slice pa1 pn1 pc1)).toArray 118)
    have g44 := g42.keepG hf44 (fun _ e => e.elim)
    have hr44 := hr42.keep hf44 (fun _ e => e.elim)
    have hO44 := own_keep hov hf44 (fun _ _ _ _ e => e)
    have hz44 := hf44.size
    generalize w42.alloc (.cells (imC (pa, pd.1, .slice pa1 pn1 pc1)).toArray 118) = w44 at hf44 hn44 g44 hr44 hO44 hz44
    have hx44 := g44.x.lt
    obtain ⟨X, hX1, hX2, hX3⟩ := hr44.hi
    have hXl : X.length = i := by have := congrArg List.length hX1; rw [List.length_map] at this; rw [this]; exact hL
    obtain ⟨vi', w45, hr45, ho45, _, hf45⟩ := app_fine Er48 (by omega) hX2 (cs := imC (pa, pd.1, .slice pa1 pn1 pc1)) hn44 rfl (by intro q hq; simp [imC, pcs] at hq; rcases hq with rfl | rfl | rfl | rfl | rfl | rfl | rfl <;> rfl) (by omega) (by unfold maxLen; omega) (by omega)
    refine RunS_ok hr45 ?_
    have hlt45 := own_lt hX2
    have g45 := g44.keepG hf45 (fun y hy => by have := hlt45 y hy; omega)
    try simp only [RS0, RS1, RS2, RS3, RS4, RS5]
    refine g45.put (j := 13) (r' := ⟨a0, a1, a2, a3, a4, a5, a6, a7, a8, a9, d, sl, mo, (L ++ [(pa, pd.1)]), [], []⟩) (vs' := vs) (vm' := vm) (vi' := vi') (vp' := nl) (vt' := nl) (by omega) (own_one ho45) rfl ?_
    intro w46 g46 hq46
    simp only [RS0, RS1, RS2, RS3, RS4, RS5, ei]
    refine ⟨⟨i + 1, L ++ [(pa, pd.1)], vi', rfl, by omega, by rw [List.length_append, hL]; rfl, g46, ?_, fun x hg hs => ?_, fun m hm => ?_⟩, by simp only [nth_0]; omega⟩
    · have q46 : ∀ k, x5 + 1 ≤ k → ¬ k = x5 := fun k hk e => by omega
      refine ⟨own_keep (own_keep hr44.hs hf45 (fun k _ _ hk e => own_apart hX2 hr44.hs (by decide) k e hk)) hq46 (fun k hk _ _ => q46 k hk), own_keep (own_keep hr44.hm hf45 (fun k _ _ hk e => own_apart hX2 hr44.hm (by decide) k e hk)) hq46 (fun k hk _ _ => q46 k hk), ⟨X ++ [(pa, pd.1, .slice pa1 pn1 pc1)], ?_, ?_, ?_⟩, World.ownsRow_nil _ _ _ _, World.ownsRow_nil _ _ _ _⟩
      · rw [List.map_append, hX1]; rfl
      · rw [List.length_append, List.flatMap_append, List.flatMap_cons, List.flatMap_nil, List.append_nil]
        exact own_keep ho45 hq46 (fun k hk _ _ => q46 k hk)
      · intro x hx
        rcases List.mem_append.1 hx with hx | hx
        · obtain ⟨q1, q2, q3⟩ := hX3 x hx
          have q4 := own_keep (own_keep q2 hf45 (fun k _ _ hk e => own_apart hX2 q2 (by decide) k e hk)) hq46 (fun k hk _ _ => q46 k hk)
          exact ⟨q1, q4, pgas_own q4 q3⟩
        · obtain rfl : x = (pa, pd.1, .slice pa1 pn1 pc1) := by simpa using hx
          have q2 := own_base hO44 (show x5 + 1 ≤ w39.heap.size by omega)
          have q4 := own_keep (own_keep q2 hf45 (fun k _ _ hk e => own_apart hX2 q2 (by decide) k e hk)) hq46 (fun k hk _ _ => q46 k hk)
          exact ⟨rfl, q4, pgas_own q4 hO42.as⟩
    · dsimp only
      rw [(drop_gIm (hil x hg hs)).2.2, ← tL x hg hs, tp x hg hs, (hdec x hg hs).1]
    · rcases List.mem_append.1 hm with hm | hm
      · exact hLok m hm
      · obtain rfl : m = (pa, pd.1) := by simpa using hm
        exact ⟨⟨pp, qp⟩, hplsn hz1⟩
  | false =>
    have hie : Tr S (fun x => x.imgs.drop i = [] ∧ L = x.imgs) := fun x hg hs => by
      have h1 := tn x hg hs
      have h2 := (tr35 x hg hs).1
      rw [Bool.and_eq_false_iff, decide_eq_false_iff_not, decide_eq_false_iff_not] at hgo
      have h3 : x.imgs.length ≤ i := by
        rcases hgo with h | h
        · omega
        · exact absurd h2 h
      exact ⟨List.drop_eq_nil_of_le h3, by rw [tL x hg hs, List.take_of_length_le h3]⟩
    have g50 := g35.conv (B' := bt15) (fun x hg hs => by dsimp only; rw [(hie x hg hs).1]; rfl)
    have tL := fun x hg hs => (hie x hg hs).2
    have hL4 : L.length ≤ 4 := by omega
    simp only [RS0, RS1, RS2, RS3, RS4, RS5]
    refine g50.num (f := fun x => (x.pages.length : Int)) (B := bt16) ⟨by omega, by omega⟩ (fun x hg _ => ⟨by omega, by have := hg.pages; omega⟩) ?_
    intro np wp0 gp0 pnp qnp tnp fnp
    obtain ⟨Np, rfl⟩ := Int.eq_ofNat_of_zero_le pnp
    have hrp0 := hr35.keep fnp (fun y e => by have := g50.o3; omega)
    refine ⟨fun vl w' => ∃ (i : Nat) (P : List (Int × Int)) (vx : Value), vl = [iv (i : Int)] ∧ i ≤ Np ∧ P.length = i ∧ TS w w' x2 rb x5 S (fun x => (x.pages.drop i).flatMap prB ++ bt17 x) ⟨a0, a1, a2, a3, a4, a5, a6, a7, a8, a9, d, sl, mo, L, P, []⟩ vs vm vi vx nl ∧ Rows w' (x5 + 1) ⟨a0, a1, a2, a3, a4, a5, a6, a7, a8, a9, d, sl, mo, L, P, []⟩ vs vm vi vx nl ∧ Tr S (fun x => P = x.pages.take i) ∧ ∀ m ∈ P, okN m.1 ∧ okN m.2, fun vl _ => (Np - nth vl 0).toNat,
      ⟨0, [], nl, rfl, by omega, rfl, gp0, hrp0, fun x _ _ => rfl, by simp⟩, ?_⟩
    rintro _ wp1 ivp ⟨jp, Pp, vxp, hvl, hjp, hPp, gp1, hrp1, tPp, hPokp⟩
    cases hvl
    obtain ⟨atp, ep, rrp, llep, trp⟩ := gp1.rd
    simp only [binV_lss, Pu_some, isB_t]
    refine errCond rrp.c2 ?_
    cases hgop : (decide ((jp : Int) < (Np : Int)) && decide (ep = 0)) with
    | true =>
      rw [Bool.and_eq_true, decide_eq_true_eq, decide_eq_true_eq] at hgop
      obtain ⟨hlt, rfl⟩ := hgop
      have d2 : decide ((jp : Int) < (Np : Int)) = true := by rw [decide_eq_true_eq]; omega
      have ei : IntKind.i64.wrap ((jp : Int) + 1) = ((jp + 1 : Nat) : Int) := by rw [wrap_id] <;> omega
      have hil : Tr S (fun x => jp < x.pages.length) := fun x hg hs => by have := tnp x hg hs; omega
      have hd50 := Fm.drew (fun _ => False) wp1
      have g51 := (gp1.conv (B' := fun x => encI (gPr x.pages jp).1 ++ (encI (gPr x.pages jp).2 ++ ((x.pages.drop (jp + 1)).flatMap prB ++ bt17 x))) (fun x hg hs => by
        dsimp only
        rw [(drop_gPr (hil x hg hs)).1, List.append_assoc, List.append_assoc])).keepG hd50 (fun _ e => e.elim)
      have hr51 := hrp1.keep hd50 (fun _ e => e.elim)
      simp only [RS0, RS1, RS2, RS3, RS4, RS5]
      refine ⟨fun w' => w'.cell? ⟨x5, 14, none⟩ = some vxp, g51.x.c14, ?_⟩
      try simp only [RS0, RS1, RS2, RS3, RS4, RS5]
      refine ⟨vxp, fun w9 h9 => ?_, ?_⟩
      · simp only [RS0, RS1, RS2, RS3, RS4, RS5, h9]; trivial
      generalize wp1.drew = w51 at hd50 g51 hr51
      have hmn : Tr S (fun x => okN (gPr x.pages jp).1 ∧ okN (gPr x.pages jp).2) := fun x hg hs => by
        have hm := mem_prs (drop_gPr (hil x hg hs)).2.1
        exact ⟨hg.nums _ (by unfold rNums; simp [hm.1]), hg.nums _ (by unfold rNums; simp [hm.2])⟩
      refine g51.num (f := fun x => (gPr x.pages jp).1) ⟨by omega, by omega⟩ (fun x hg hs => (hmn x hg hs).1) ?_
      intro pa w52 g52 pp1 qp1 tp1 hq52
      have hr52 := hr51.keep hq52 (fun y e => by have := g51.o3; omega)
      refine ⟨g52.x.c14, ?_⟩
      refine g52.num (f := fun x => (gPr x.pages jp).2) ⟨by omega, by omega⟩ (fun x hg hs => (hmn x hg hs).2) ?_
      intro pb w53 g53 pp2 qp2 tp2 hq53
      have hr53 := hr52.keep hq53 (fun y e => by have := g51.o3; omega)
      refine ⟨g53.x.c14, ?_⟩
      refine RunS_ok (bld96 _ _ _) ⟨rfl, ?_⟩
      refine RunS_ok (bs49 _ _ _) ?_
      have hf54 := Fm.alloc (fun _ => False) w53 (.cells (pc2 (pa, pb)).toArray 120)
      have hn54 := alloc_new w53 (.cells (pc2 (pa, pb)).toArray 120)
      have g54 := g53.keepG hf54 (fun _ e => e.elim)
      have hr54 := hr53.keep hf54 (fun _ e => e.elim)
      generalize w53.alloc (.cells (pc2 (pa, pb)).toArray 120) = w54 at hf54 hn54 g54 hr54
      refine ⟨g54.x.c14, ?_⟩
      have hx54 := g54.x.lt
      have hh54 : w54.ownsRow (x5 + 1) 120 2 vxp Pp.length (Pp.flatMap pc2) := hr54.hp
      obtain ⟨vx', w55, hr55, ho55, _, hf55⟩ := app_fine Er49 (by omega) hh54 (cs := pc2 (pa, pb)) hn54 rfl (by intro q hq; simp [pc2] at hq; rcases hq with rfl | rfl <;> rfl) (by omega) (by unfold maxLen; omega) (by omega)
      refine RunS_ok hr55 ?_
      have hlt55 := own_lt hr54.hp
      have g55 := g54.keepG hf55 (fun y hy => by have := hlt55 y hy; omega)
      try simp only [RS0, RS1, RS2, RS3, RS4, RS5]
      refine g55.put (j := 14) (r' := ⟨a0, a1, a2, a3, a4, a5, a6, a7, a8, a9, d, sl, mo, L, (Pp ++ [(pa, pb)]), []⟩) (vs' := vs) (vm' := vm) (vi' := vi) (vp' := vx') (vt' := nl) (by omega) (own_one ho55) rfl ?_
      intro w56 g56 hq56
      simp only [RS0, RS1, RS2, RS3, RS4, RS5, ei]
      refine ⟨⟨jp + 1, Pp ++ [(pa, pb)], vx', rfl, by omega, by rw [List.length_append, hPp]; rfl, g56, ?_, fun x hg hs => ?_, fun m hm => ?_⟩, by simp only [nth_0]; omega⟩
      · have q56 : ∀ k, x5 + 1 ≤ k → ¬ k = x5 := fun k hk e => by omega
        have kk : ∀ {b1 : Nat} {e1 : TypeId} {s1 : Nat} {v1 : Value} {n1 : Nat} {y1 : List Value}, w54.ownsRow (x5 + 1) e1 s1 v1 n1 y1 → 120 ≠ e1 → w56.ownsRow (x5 + 1) e1 s1 v1 n1 y1 := fun hh he => own_keep (own_keep hh hf55 (fun k _ _ hk e => own_apart hr54.hp hh he k e hk)) hq56 (fun k hk _ _ => q56 k hk)
        obtain ⟨X, hX1, hX2, hX3⟩ := hr54.hi
        have hnew : w56.ownsRow (x5 + 1) 120 2 vx' (Pp ++ [(pa, pb)]).length ((Pp ++ [(pa, pb)]).flatMap pc2) := by
          rw [List.length_append, List.flatMap_append, List.flatMap_cons, List.flatMap_nil, List.append_nil]
          exact own_keep ho55 hq56 (fun k hk _ _ => q56 k hk)
        refine ⟨kk (b1 := 0) hr54.hs (by decide), kk (b1 := 0) hr54.hm (by decide), ⟨X, hX1, kk (b1 := 0) hX2 (by decide), fun x hx => ?_⟩, hnew, World.ownsRow_nil _ _ _ _⟩
        obtain ⟨q1, q2, q3⟩ := hX3 x hx
        have q4 := kk (b1 := 0) q2 (by decide)
        exact ⟨q1, q4, pgas_own q4 q3⟩
      · dsimp only
        rw [(drop_gPr (hil x hg hs)).2.2, ← tPp x hg hs, tp1 x hg hs, tp2 x hg hs]
      · rcases List.mem_append.1 hm with hm | hm
        · exact hPokp m hm
        · obtain rfl : m = (pa, pb) := by simpa using hm
          exact ⟨⟨pp1, qp1⟩, ⟨pp2, qp2⟩⟩
    | false =>
      have hiep : Tr S (fun x => x.pages.drop jp = [] ∧ Pp = x.pages) := fun x hg hs => by
        have h1 := tnp x hg hs
        have h2 := (trp x hg hs).1
        rw [Bool.and_eq_false_iff, decide_eq_false_iff_not, decide_eq_false_iff_not] at hgop
        have h3 : x.pages.length ≤ jp := by
          rcases hgop with h | h
          · omega
          · exact absurd h2 h
        exact ⟨List.drop_eq_nil_of_le h3, by rw [tPp x hg hs, List.take_of_length_le h3]⟩
      have gp9 := gp1.conv (B' := bt17) (fun x hg hs => by dsimp only; rw [(hiep x hg hs).1]; rfl)
      have tPp := fun x hg hs => (hiep x hg hs).2
      have hPpl : Pp.length ≤ 8192 := by omega
      simp only [RS0, RS1, RS2, RS3, RS4, RS5]
      refine gp9.num (f := fun x => (x.txns.length : Int)) (B := bt18) ⟨by omega, by omega⟩ (fun x hg _ => ⟨by omega, by have := hg.txns; omega⟩) ?_
      intro nt wt0 gt0 pnt qnt tnt fnt
      obtain ⟨Nt, rfl⟩ := Int.eq_ofNat_of_zero_le pnt
      have hrt0 := hrp1.keep fnt (fun y e => by have := gp9.o3; omega)
      refine ⟨fun vl w' => ∃ (i : Nat) (P : List (Int × Int)) (vx : Value), vl = [iv (i : Int)] ∧ i ≤ Nt ∧ P.length = i ∧ TS w w' x2 rb x5 S (fun x => (x.txns.drop i).flatMap prB ++ []) ⟨a0, a1, a2, a3, a4, a5, a6, a7, a8, a9, d, sl, mo, L, Pp, P⟩ vs vm vi vxp vx ∧ Rows w' (x5 + 1) ⟨a0, a1, a2, a3, a4, a5, a6, a7, a8, a9, d, sl, mo, L, Pp, P⟩ vs vm vi vxp vx ∧ Tr S (fun x => P = x.txns.take i) ∧ ∀ m ∈ P, okN m.1 ∧ okN m.2, fun vl _ => (Nt - nth vl 0).toNat,
        ⟨0, [], nl, rfl, by omega, rfl, gt0.conv (fun x _ _ => by show bt18 x = _; unfold bt18; rw [List.drop_zero, List.append_nil]), hrt0, fun x _ _ => rfl, by simp⟩, ?_⟩
      rintro _ wt1 ivt ⟨jt, Pt, vxt, hvl, hjt, hPt, gt1, hrt1, tPt, hPokt⟩
      cases hvl
      obtain ⟨att, et, rrt, llet, trt⟩ := gt1.rd
      simp only [binV_lss, Pu_some, isB_t]
      refine errCond rrt.c2 ?_
      cases hgot : (decide ((jt : Int) < (Nt : Int)) && decide (et = 0)) with
      | true =>
        rw [Bool.and_eq_true, decide_eq_true_eq, decide_eq_true_eq] at hgot
        obtain ⟨hlt, rfl⟩ := hgot
        have d2 : decide ((jt : Int) < (Nt : Int)) = true := by rw [decide_eq_true_eq]; omega
        have ei : IntKind.i64.wrap ((jt : Int) + 1) = ((jt + 1 : Nat) : Int) := by rw [wrap_id] <;> omega
        have hil : Tr S (fun x => jt < x.txns.length) := fun x hg hs => by have := tnt x hg hs; omega
        have hd50 := Fm.drew (fun _ => False) wt1
        have g51 := (gt1.conv (B' := fun x => encI (gPr x.txns jt).1 ++ (encI (gPr x.txns jt).2 ++ ((x.txns.drop (jt + 1)).flatMap prB ++ []))) (fun x hg hs => by
          dsimp only
          rw [(drop_gPr (hil x hg hs)).1, List.append_assoc, List.append_assoc])).keepG hd50 (fun _ e => e.elim)
        have hr51 := hrt1.keep hd50 (fun _ e => e.elim)
        simp only [RS0, RS1, RS2, RS3, RS4, RS5]
        refine ⟨fun w' => w'.cell? ⟨x5, 15, none⟩ = some vxt, g51.x.c15, ?_⟩
        try simp only [RS0, RS1, RS2, RS3, RS4, RS5]
        refine ⟨vxt, fun w9 h9 => ?_, ?_⟩
        · simp only [RS0, RS1, RS2, RS3, RS4, RS5, h9]; trivial
        generalize wt1.drew = w51 at hd50 g51 hr51
        have hmn : Tr S (fun x => okN (gPr x.txns jt).1 ∧ okN (gPr x.txns jt).2) := fun x hg hs => by
          have hm := mem_prs (drop_gPr (hil x hg hs)).2.1
          exact ⟨hg.nums _ (by unfold rNums; simp [hm.1]), hg.nums _ (by unfold rNums; simp [hm.2])⟩
        refine g51.num (f := fun x => (gPr x.txns jt).1) ⟨by omega, by omega⟩ (fun x hg hs => (hmn x hg hs).1) ?_
        intro pa w52 g52 pp1 qp1 tp1 hq52
        have hr52 := hr51.keep hq52 (fun y e => by have := g51.o3; omega)
        refine ⟨g52.x.c15, ?_⟩
        refine g52.num (f := fun x => (gPr x.txns jt).2) ⟨by omega, by omega⟩ (fun x hg hs => (hmn x hg hs).2) ?_
        intro pb w53 g53 pp2 qp2 tp2 hq53
        have hr53 := hr52.keep hq53 (fun y e => by have := g51.o3; omega)
        refine ⟨g53.x.c15, ?_⟩
        refine RunS_ok (bld99 _ _ _) ⟨rfl, ?_⟩
        refine RunS_ok (bs50 _ _ _) ?_
        have hf54 := Fm.alloc (fun _ => False) w53 (.cells (pc2 (pa, pb)).toArray 122)
        have hn54 := alloc_new w53 (.cells (pc2 (pa, pb)).toArray 122)
        have g54 := g53.keepG hf54 (fun _ e => e.elim)
        have hr54 := hr53.keep hf54 (fun _ e => e.elim)
        generalize w53.alloc (.cells (pc2 (pa, pb)).toArray 122) = w54 at hf54 hn54 g54 hr54
        refine ⟨g54.x.c15, ?_⟩
        have hx54 := g54.x.lt
        have hh54 : w54.ownsRow (x5 + 1) 122 2 vxt Pt.length (Pt.flatMap pc2) := hr54.ht
        obtain ⟨vx', w55, hr55, ho55, _, hf55⟩ := app_fine Er50 (by omega) hh54 (cs := pc2 (pa, pb)) hn54 rfl (by intro q hq; simp [pc2] at hq; rcases hq with rfl | rfl <;> rfl) (by omega) (by unfold maxLen; omega) (by omega)
        refine RunS_ok hr55 ?_
        have hlt55 := own_lt hr54.ht
        have g55 := g54.keepG hf55 (fun y hy => by have := hlt55 y hy; omega)
        try simp only [RS0, RS1, RS2, RS3, RS4, RS5]
        refine g55.put (j := 15) (r' := ⟨a0, a1, a2, a3, a4, a5, a6, a7, a8, a9, d, sl, mo, L, Pp, (Pt ++ [(pa, pb)])⟩) (vs' := vs) (vm' := vm) (vi' := vi) (vp' := vxp) (vt' := vx') (by omega) (own_one ho55) rfl ?_
        intro w56 g56 hq56
        simp only [RS0, RS1, RS2, RS3, RS4, RS5, ei]
        refine ⟨⟨jt + 1, Pt ++ [(pa, pb)], vx', rfl, by omega, by rw [List.length_append, hPt]; rfl, g56, ?_, fun x hg hs => ?_, fun m hm => ?_⟩, by simp only [nth_0]; omega⟩
        · have q56 : ∀ k, x5 + 1 ≤ k → ¬ k = x5 := fun k hk e => by omega
          have kk : ∀ {b1 : Nat} {e1 : TypeId} {s1 : Nat} {v1 : Value} {n1 : Nat} {y1 : List Value}, w54.ownsRow (x5 + 1) e1 s1 v1 n1 y1 → 122 ≠ e1 → w56.ownsRow (x5 + 1) e1 s1 v1 n1 y1 := fun hh he => own_keep (own_keep hh hf55 (fun k _ _ hk e => own_apart hr54.ht hh he k e hk)) hq56 (fun k hk _ _ => q56 k hk)
          obtain ⟨X, hX1, hX2, hX3⟩ := hr54.hi
          have hnew : w56.ownsRow (x5 + 1) 122 2 vx' (Pt ++ [(pa, pb)]).length ((Pt ++ [(pa, pb)]).flatMap pc2) := by
            rw [List.length_append, List.flatMap_append, List.flatMap_cons, List.flatMap_nil, List.append_nil]
            exact own_keep ho55 hq56 (fun k hk _ _ => q56 k hk)
          refine ⟨kk (b1 := 0) hr54.hs (by decide), kk (b1 := 0) hr54.hm (by decide), ⟨X, hX1, kk (b1 := 0) hX2 (by decide), fun x hx => ?_⟩, kk (b1 := 0) hr54.hp (by decide), hnew⟩
          obtain ⟨q1, q2, q3⟩ := hX3 x hx
          have q4 := kk (b1 := 0) q2 (by decide)
          exact ⟨q1, q4, pgas_own q4 q3⟩
        · dsimp only
          rw [(drop_gPr (hil x hg hs)).2.2, ← tPt x hg hs, tp1 x hg hs, tp2 x hg hs]
        · rcases List.mem_append.1 hm with hm | hm
          · exact hPokt m hm
          · obtain rfl : m = (pa, pb) := by simpa using hm
            exact ⟨⟨pp1, qp1⟩, ⟨pp2, qp2⟩⟩
      | false =>
        have hiet : Tr S (fun x => x.txns.drop jt = [] ∧ Pt = x.txns) := fun x hg hs => by
          have h1 := tnt x hg hs
          have h2 := (trt x hg hs).1
          rw [Bool.and_eq_false_iff, decide_eq_false_iff_not, decide_eq_false_iff_not] at hgot
          have h3 : x.txns.length ≤ jt := by
            rcases hgot with h | h
            · omega
            · exact absurd h2 h
          exact ⟨List.drop_eq_nil_of_le h3, by rw [tPt x hg hs, List.take_of_length_le h3]⟩
        have gt9 := gt1.conv (B' := fun _ => []) (fun x hg hs => by dsimp only; rw [(hiet x hg hs).1]; rfl)
        have tPt := fun x hg hs => (hiet x hg hs).2
        have hPtl : Pt.length ≤ 1024 := by omega
        simp only [RS0, RS1, RS2, RS3, RS4, RS5]
        have hbnd : Bnd ⟨a0, a1, a2, a3, a4, a5, a6, a7, a8, a9, d, sl, mo, L, Pp, Pt⟩ := by
          refine ⟨fun n hn => ?_, ⟨p3, q3⟩, pd, psl, pmo, hL4, hPpl, hPtl, fun m hm => (hLok m hm).2⟩
          unfold rNums at hn
          simp only [List.mem_append] at hn
          rcases hn with ((((hn | hn) | hn) | hn) | hn) | hn
          · exact hnums n hn
          · exact qsl n hn
          · exact qmo n hn
          · obtain ⟨m, hm, rfl⟩ := List.mem_map.1 hn
            exact (hLok m hm).1
          · obtain ⟨m, hm, h⟩ := mem_prs2 hn
            rcases h with rfl | rfl
            · exact (hPokp m hm).1
            · exact (hPokp m hm).2
          · obtain ⟨m, hm, h⟩ := mem_prs2 hn
            rcases h with rfl | rfl
            · exact (hPokt m hm).1
            · exact (hPokt m hm).2
        have hall : Tr S (fun y => y = ⟨a0, a1, a2, a3, a4, a5, a6, a7, a8, a9, d, sl, mo, L, Pp, Pt⟩) := fun x hg hs => by
          rw [t0 x hg hs, t1 x hg hs, t2 x hg hs, t3 x hg hs, t4 x hg hs, t5 x hg hs, t6 x hg hs, t7 x hg hs, t8 x hg hs, t9 x hg hs, td x hg hs, tsl x hg hs, tmo x hg hs, tL x hg hs, tPp x hg hs, tPt x hg hs]
        have hd71 := Fm.drew (fun _ => False) wt1
        have g72 := gt9.keepG hd71 (fun _ e => e.elim)
        have hr72 := hrt1.keep hd71 (fun _ e => e.elim)
        obtain ⟨at72, e72, rr72, le72, tr72⟩ := g72.rd
        refine ⟨fun w' => RB w' x5 ⟨a0, a1, a2, a3, a4, a5, a6, a7, a8, a9, d, sl, mo, L, Pp, Pt⟩ vs vm vi vxp vxt, g72.x, .agg (rcs ⟨a0, a1, a2, a3, a4, a5, a6, a7, a8, a9, d, sl, mo, L, Pp, Pt⟩ vs vm vi vxp vxt), fun w9 h9 => ?_, ?_⟩
        · simp only [RS0, RS1, RS2, RS3, RS4, RS5, h9.all]; trivial
        refine (rend_spec rr72).mono ?_
        rintro _ w73 ⟨rfl, hf73⟩
        have g73 := g72.keepG hf73 (fun _ e => e.elim)
        have hr73 := hr72.keep hf73 (fun _ e => e.elim)
        refine ⟨g73.x, ?_⟩
        simp only [RS0, RS1, RS2, RS3, RS4, RS5, beq_dec]
        refine ret_rc g73.res rfl rfl hr73.one _ ?_
        intro w74 hf74
        have ho1 := g73.o1
        have ho2 := g73.o2
        have hr74 := hr73.keep hf74 (fun y e => by omega)
        have b74 : ∀ {e1 : TypeId} {s1 : Nat} {v1 : Value} {n1 : Nat} {y1 : List Value}, w74.ownsRow (x5 + 1) e1 s1 v1 n1 y1 → w74.ownsRow w.heap.size e1 s1 v1 n1 y1 := fun hh => own_base hh (by have := g73.o3; omega)
        obtain ⟨X, hX1, hX2, hX3⟩ := hr74.hi
        refine ⟨_, _, _, _, _, _, _, rfl, ⟨b74 hr74.hs, b74 hr74.hm, ⟨X, hX1, b74 hX2, fun x hx => ⟨(hX3 x hx).1, b74 (hX3 x hx).2.1, (hX3 x hx).2.2⟩⟩, b74 hr74.hp, b74 hr74.ht⟩, hbnd, fun y hg hs => ⟨?_, hall y hg hs⟩, Fm.own g73.fm hf74 (by rintro y rfl; omega)⟩
        obtain ⟨z1, z2⟩ := tr72 y hg hs
        have hlen : S.length ≤ at72 := by
          have := congrArg List.length z2
          rw [List.length_drop, List.length_nil] at this
          omega
        rw [decide_eq_true_eq, if_neg (fun h => by omega)]
        exact z1
end Go.Proofs.YthbngnlmgplijaaGreatDoor

namespace Go.Proofs.YthbngnlmgplijaaGreatDoor
open Go.Al Go.Proofs
set_option linter.unusedVariables false
set_option linter.unusedSimpArgs false
set_option linter.unusedSectionVars false
set_option maxRecDepth 100000

set_option maxHeartbeats 8000000 in
theorem rdecR_spec (w : World) (d : Bs) (hd : d.length ≤ 1000000000000000) : Cl Tryz.prog 14 [stv d] w fun v w' => ∃ cs, v = .tuple #[.agg cs, iv (rDec d).2.1, iv (rDec d).2.2] ∧ RdOk w' w.heap.size cs (rDec d).1 ∧ Fm (fun _ => False) w w' := by
  refine c14 ?_; unfold T14
  refine New_any ?_
  intro x2 w1 hx2 hs1 hw1 hf1
  have hw1' : w1.heap[x2]? = some (.cells (rcs rc0 nl nl nl nl nl) 28) := hw1
  clear hw1
  have one0 : ∀ u ∈ (rcs rc0 nl nl nl nl nl).toList, u.oneCell' = true := rcs_one rfl rfl rfl rfl rfl
  -- an empty record
  have bad : ∀ (w' : World) (e : Int), w'.heap[x2]? = some (.cells (rcs rc0 nl nl nl nl nl) 28) → Fm (fun _ => False) w w' → rDec d = (none, 0, e) →
      RunS Tryz.prog (Instr.build 28 #[]) w' (fun t14_5 w_6 =>
      St 16 w_6 (pv x2) t14_5 fun u_7 w_8 =>
      RetO (resL Tryz.prog (fun j => bif Nat.beq j 2 then pv x2 else bif Nat.beq j 3 then (Value.int IntKind.i64 0) else bif Nat.beq j 4 then (Value.int IntKind.i64 e) else undef) w_8 [(ResultVar.cell 2 28), (ResultVar.tmp 3), (ResultVar.tmp 4)]) w_8 (fun v w' => ∃ cs, v = .tuple #[.agg cs, iv (rDec d).2.1, iv (rDec d).2.2] ∧ RdOk w' w.heap.size cs (rDec d).1 ∧ Fm (fun _ => False) w w')) := by
    intro w' e hw' hF hr
    refine RunS_ok (bld52z _) ?_
    refine St_all hw' rfl rfl one0 ?_
    intro w2 hw2 hs2 hf2
    refine retRc hw2 rfl _ ⟨_, by rw [hr]; rfl, by rw [hr]; rfl, Fm.own hF hf2 (by rintro y rfl; omega)⟩
  have hb : rDec d = (bif decide (d.length < 8) then (none, 0, 40)
    else bif decide (ofN (d.take 4) = 0) || decide (65535 < ofN (d.take 4)) then (none, 0, 41)
    else bif decide (d.length < 8 + ofN (d.take 4)) then (none, 0, 40)
    else bif !decide (ofN ((d.drop 4).take 4) = crc ((d.drop 8).take (ofN (d.take 4)))) then (none, 0, 30)
    else match outerP ((d.drop 8).take (ofN (d.take 4))) with
      | none => (none, 0, 41)
      | some x => bif decide ((rCheck x).2 = 0) && decide ((rCheck x).1 = (d.drop 8).take (ofN (d.take 4))) then (some x, 8 + ofN (d.take 4), 0) else (none, 0, 41) : Option Rc × Nat × Int) := rfl
  have d8 : decide ((d.length : Int) < 8) = decide (d.length < 8) := by rw [decide_eq_decide]; omega
  simp only [RS0, RS1, RS2, RS3, RS4, RS5, str_size, d8]
  cases h1 : decide (d.length < 8) with
  | true =>
    simp only [RS0, RS1, RS2, RS3, RS4, RS5]
    exact bad w1 40 hw1' hf1 (by rw [hb, h1]; rfl)
  | false =>
  have h8 : 8 ≤ d.length := by rw [decide_eq_false_iff_not] at h1; omega
  have s1 := slS_hi (l := d) (i := 4) (by omega) .i64
  have s1' : slS (stv d) none (some (Value.int .i64 4)) = some (stv (d.take 4)) := s1
  simp only [RS0, RS1, RS2, RS3, RS4, RS5, s1']
  refine (rof_spec w1 (d.take 4) (by rw [List.length_take]; omega)).mono ?_
  rintro _ w2 ⟨rfl, rfl⟩
  have hn32 : ofN (d.take 4) < 4294967296 := by
    have := ofB_lt 4 (d.take 4) (by rw [List.length_take]; omega)
    rw [ofN_short (by rw [List.length_take]; omega)]
    omega
  rw [h1, cond_false] at hb
  generalize hn : ofN (d.take 4) = n at hb hn32 ⊢
  have e0 : decide ((n : Int) < 1) = decide (n = 0) := by rw [decide_eq_decide]; omega
  have e1 : decide ((65535 : Int) < (n : Int)) = decide (65535 < n) := by rw [decide_eq_decide]; omega
  simp only [RS0, RS1, RS2, RS3, RS4, RS5, e0]
  cases h2 : decide (n = 0) with
  | true =>
    simp only [RS0, RS1, RS2, RS3, RS4, RS5]
    exact bad w2 41 hw1' hf1 (by rw [hb, h2]; rfl)
  | false =>
  simp only [RS0, RS1, RS2, RS3, RS4, RS5, e1]
  cases h3 : decide (65535 < n) with
  | true =>
    simp only [RS0, RS1, RS2, RS3, RS4, RS5]
    exact bad w2 41 hw1' hf1 (by rw [hb, h2, h3]; rfl)
  | false =>
  rw [h2, h3, Bool.or_false, cond_false] at hb
  rw [decide_eq_false_iff_not] at h2 h3
  have e2 : IntKind.i64.wrap (8 + (n : Int)) = ((8 + n : Nat) : Int) := by rw [wrap_id] <;> omega
  have e3 : decide (IntKind.i64.wrap ((d.length : Int) - 8) < (n : Int)) = decide (d.length < 8 + n) := by
    have q : IntKind.i64.wrap ((d.length : Int) - 8) = (d.length : Int) - 8 := by rw [wrap_id] <;> omega
    rw [q, decide_eq_decide]; omega
  simp only [RS0, RS1, RS2, RS3, RS4, RS5, str_size, e2, e3]
  cases h4 : decide (d.length < 8 + n) with
  | true =>
    simp only [RS0, RS1, RS2, RS3, RS4, RS5]
    exact bad w2 40 hw1' hf1 (by rw [hb, h4]; rfl)
  | false =>
  rw [h4, cond_false] at hb
  rw [decide_eq_false_iff_not] at h4
  have s2 := slS_lh (l := d) (i := 8) (j := 8 + n) (by omega) (by omega) .i64 .i64
  rw [show 8 + n - 8 = n by omega] at s2
  have s2' : slS (stv d) (some (Value.int .i64 8)) (some (iv ((8 + n : Nat) : Int))) = some (stv ((d.drop 8).take n)) := s2
  have s3 := slS_lh (l := d) (i := 4) (j := 8) (by omega) (by omega) .i64 .i64
  have s3' : slS (stv d) (some (Value.int .i64 4)) (some (Value.int .i64 8)) = some (stv ((d.drop 4).take 4)) := s3
  have hbl : ((d.drop 8).take n).length = n := by rw [List.length_take, List.length_drop]; omega
  simp only [RS0, RS1, RS2, RS3, RS4, RS5, e2, s2', s3']
  generalize hB : (d.drop 8).take n = B at hb hbl ⊢
  refine (rof_spec w2 ((d.drop 4).take 4) (by rw [List.length_take]; omega)).mono ?_
  rintro _ w3 ⟨rfl, rfl⟩
  refine (rsum_spec w3 B (by omega)).mono ?_
  rintro _ w4 ⟨rfl, rfl⟩
  obtain ⟨q1, q2⟩ := crc_in B
  have e4 : decide ((ofN ((d.drop 4).take 4) : Int) = (crc B : Nat)) = decide (ofN ((d.drop 4).take 4) = crc B) := by rw [decide_eq_decide]; omega
  simp only [RS0, RS1, RS2, RS3, RS4, RS5, cvI_int, q2, bne_dec, e4]
  cases h5 : decide (ofN ((d.drop 4).take 4) = crc B) with
  | false =>
    simp only [RS0, RS1, RS2, RS3, RS4, RS5, Bool.not_false]
    exact bad w4 30 hw1' hf1 (by rw [hb, h5]; rfl)
  | true =>
  rw [h5, Bool.not_true, cond_false] at hb
  simp only [RS0, RS1, RS2, RS3, RS4, RS5, Bool.not_true]
  have hno41 : (∀ y, Good y → rBody y = B → (rCheck y).2 = 0 → False) → rDec d = (none, 0, 41) := by
    intro hq
    rw [hb]
    cases ho : outerP B with
    | none => rfl
    | some y =>
      simp only
      cases h6 : decide ((rCheck y).2 = 0) && decide ((rCheck y).1 = B) with
      | false => rfl
      | true =>
        rw [Bool.and_eq_true, decide_eq_true_eq, decide_eq_true_eq] at h6
        obtain ⟨g1, _, g3, _⟩ := rCheck_ok h6.1 (outer_in ho).lsns
        exact (hq y g1 (g3.symm.trans h6.2) h6.1).elim
  have hyes : ∀ x, Bnd x → (rCheck x).2 = 0 → rBody x = B → rDec d = (some x, 8 + n, 0) := by
    intro x hbx h6 h7
    obtain ⟨g1, _, g3, _⟩ := rCheck_ok h6 hbx.lsns
    rw [hb, ← h7, outer_enc g1]
    simp only
    rw [h6, g3, decide_eq_true rfl, decide_eq_true rfl]
    rfl
  refine (taken_spec w4 B (by omega)).mono ?_
  rintro _ w5 ⟨x, vs, vm, vi, vp, vt, ok, rfl, hrow, hbd, htr, hf5⟩
  have hx5 := hf5.heap hw1' (fun e => e)
  have hF5 := Fmf hf1 hf5
  have hz5 := hF5.size
  have hsz : (rcs x vs vm vi vp vt).size = 16 := rfl
  have hone := (hrow.asR hbd).one
  simp only [RS0, RS1, RS2, RS3, RS4, RS5]
  refine New_any ?_
  intro x7 w6 hx7 hs6 hw6 hf6
  refine St_all hw6 rfl hsz hone ?_
  intro w7 hw7 hs7 hf7
  have hf57 : Fm (fun _ => False) w5 w7 := Fm.own hf6 hf7 (by rintro y rfl; omega)
  have hx7' := hf57.heap hx5 (fun e => e)
  have hF7 := Fmf hF5 hf57
  cases ok with
  | false =>
    simp only [RS0, RS1, RS2, RS3, RS4, RS5, Bool.not_false]
    exact bad w7 41 hx7' hF7 (hno41 fun y hg hy _ => by have := (htr y hg hy).1; simp at this)
  | true =>
  have hr7 := hrow.keep hf57 (fun _ e => e.elim)
  simp only [RS0, RS1, RS2, RS3, RS4, RS5, Bool.not_true, cellsV_blk hw7 hsz]
  refine (rcheckR_spec (hr7.asR hbd)).mono ?_
  rintro _ w8 ⟨rfl, hf8⟩
  have hx8 := hf8.heap hx7' (fun e => e)
  have hq8 := hf8.heap hw7 (fun e => e)
  have hF8 := Fmf hF7 hf8
  have hr8 := hr7.keep hf8 (fun _ e => e.elim)
  have hz7 := hF7.size
  simp only [RS0, RS1, RS2, RS3, RS4, RS5, bne_dec]
  cases h6 : decide ((rCheck x).2 = 0) with
  | false =>
    rw [decide_eq_false_iff_not] at h6
    simp only [RS0, RS1, RS2, RS3, RS4, RS5, Bool.not_false]
    exact bad w8 41 hx8 hF8 (hno41 fun y hg hy hc => by
      have := (htr y hg hy).2
      subst this
      exact h6 hc)
  | true =>
  rw [decide_eq_true_eq] at h6
  obtain ⟨g1, _, g3, _⟩ := rCheck_ok h6 hbd.lsns
  have hlong : longR x = false := by
    have a1 := g1.data
    have a2 := g1.slots
    have a3 := g1.more
    have a4 := g1.imgs
    have a5 := g1.pages
    have a6 := g1.txns
    simp only [longR, Bool.or_eq_false_iff, decide_eq_false_iff_not]
    omega
  simp only [RS0, RS1, RS2, RS3, RS4, RS5, Bool.not_true, cellsV_blk hq8 hsz]
  refine (rbody_spec (hr8.asR hbd) hlong g1.img).mono ?_
  rintro _ w9 ⟨rfl, hf9⟩
  have hx9 := hf9.heap hx8 (fun e => e)
  have hq9 := hf9.heap hq8 (fun e => e)
  have hF9 := Fmf hF8 hf9
  have hr9 := hr8.keep hf9 (fun _ e => e.elim)
  have hz8 := hF8.size
  simp only [RS0, RS1, RS2, RS3, RS4, RS5, str_inj, bne_dec]
  cases h7 : decide (rBody x = B) with
  | false =>
    rw [decide_eq_false_iff_not] at h7
    simp only [RS0, RS1, RS2, RS3, RS4, RS5, Bool.not_false]
    exact bad w9 41 hx9 hF9 (hno41 fun y hg hy hc => by
      have := (htr y hg hy).2
      subst this
      exact h7 hy)
  | true =>
  rw [decide_eq_true_eq] at h7
  have hD := hyes x hbd h6 h7
  simp only [RS0, RS1, RS2, RS3, RS4, RS5, Bool.not_true, cellsV_blk hq9 hsz, e2]
  refine St_all hx9 rfl rfl hone ?_
  intro wA hwA hsA hfA
  refine retRc hwA rfl _ ⟨_, by rw [hD], ?_, Fm.own hF9 hfA (by rintro y rfl; omega)⟩
  rw [hD]
  have hwsz : w.heap.size ≤ w4.heap.size := hf1.size
  have b9 : ∀ {e1 : TypeId} {s1 : Nat} {v1 : Value} {n1 : Nat} {y1 : List Value}, wA.ownsRow w4.heap.size e1 s1 v1 n1 y1 → wA.ownsRow w.heap.size e1 s1 v1 n1 y1 := fun hh => own_base hh hwsz
  have hrA := hr9.keep hfA (fun y e => by omega)
  obtain ⟨X, hX1, hX2, hX3⟩ := hrA.hi
  exact ⟨vs, vm, vi, vp, vt, rfl, ⟨b9 hrA.hs, b9 hrA.hm, ⟨X, hX1, b9 hX2, fun x hx => ⟨(hX3 x hx).1, b9 (hX3 x hx).2.1, (hX3 x hx).2.2⟩⟩, b9 hrA.hp, b9 hrA.ht⟩, hbd⟩

end Go.Proofs.YthbngnlmgplijaaGreatDoor

namespace Go.Proofs.YthbngnlmgplijaaGreatDoor
open Go.Al Go.Proofs
set_option linter.unusedVariables false
set_option linter.unusedSimpArgs false
set_option linter.unusedSectionVars false
set_option maxRecDepth 100000

theorem neq96 (o1 o2 : Operand) (p q : Int × Int) (w : World) : (do eqGuard .neq 120 o1 o2 (.agg (pc2 p).toArray) (.agg (pc2 q).toArray); binOp .neq 120 (.agg (pc2 p).toArray) (.agg (pc2 q).toArray) : Sem Value).run Tryz.prog w = .ok (.bool (!decide (p = q))) w := by
  have hS : Tryz.prog.underlying 120 = some (.struct (Tryz.prog.fieldsOf 120)) := by kernel_rfl
  have hp : Tryz.prog.stoodInHeld 120 = false := by kernel_rfl
  have hm : Tryz.prog.eqGuardType Tryz.prog.depth 120 = false := by kernel_rfl
  have u3 := Tryz.underlying3
  rw [Sem.run_bind, run_eqGuard_agg w .neq 120 o1 o2 _ _ hm, Result.andThen_ok, run_neq_struct, show (10000 : Nat) = 9999 + 1 from rfl, run_equalIn_agg w 9999 120 _ _ hS hp]
  have a3 := Tryz.isAgg3
  have z3 := Tryz.sizeOf3
  simp only [Program.fieldsOf, Tryz.underlying120, pc2]
  obtain ⟨p1, p2⟩ := p
  obtain ⟨q1, q2⟩ := q
  simp only
  go_simp
  by_cases h1 : p1 = q1 <;> by_cases h2 : p2 = q2 <;> simp [h1, h2]

theorem neq99 (o1 o2 : Operand) (p q : Int × Int) (w : World) : (do eqGuard .neq 122 o1 o2 (.agg (pc2 p).toArray) (.agg (pc2 q).toArray); binOp .neq 122 (.agg (pc2 p).toArray) (.agg (pc2 q).toArray) : Sem Value).run Tryz.prog w = .ok (.bool (!decide (p = q))) w := by
  have hS : Tryz.prog.underlying 122 = some (.struct (Tryz.prog.fieldsOf 122)) := by kernel_rfl
  have hp : Tryz.prog.stoodInHeld 122 = false := by kernel_rfl
  have hm : Tryz.prog.eqGuardType Tryz.prog.depth 122 = false := by kernel_rfl
  have u3 := Tryz.underlying3
  rw [Sem.run_bind, run_eqGuard_agg w .neq 122 o1 o2 _ _ hm, Result.andThen_ok, run_neq_struct, show (10000 : Nat) = 9999 + 1 from rfl, run_equalIn_agg w 9999 122 _ _ hS hp]
  have a3 := Tryz.isAgg3
  have z3 := Tryz.sizeOf3
  simp only [Program.fieldsOf, Tryz.underlying122, pc2]
  obtain ⟨p1, p2⟩ := p
  obtain ⟨q1, q2⟩ := q
  simp only
  go_simp
  by_cases h1 : p1 = q1 <;> by_cases h2 : p2 = q2 <;> simp [h1, h2]

theorem take_step {α : Type} {A B : List α} {i : Nat} {x y : α} (h : A.take i = B.take i) (ha : A[i]? = some x) (hb : B[i]? = some y) (e : x = y) : A.take (i + 1) = B.take (i + 1) := by
  rw [List.take_add_one, List.take_add_one, h, ha, hb, e]
theorem ne_at {α : Type} [DecidableEq α] {A B : List α} {i : Nat} {x y : α} (ha : A[i]? = some x) (hb : B[i]? = some y) (e : x ≠ y) : decide (A = B) = false := by
  rw [decide_eq_false_iff_not]
  rintro rfl
  rw [ha] at hb
  exact e (Option.some.inj hb)
theorem ne_len {α : Type} [DecidableEq α] {A B : List α} (h : A.length ≠ B.length) : decide (A = B) = false := by
  rw [decide_eq_false_iff_not]
  rintro rfl
  exact h rfl
theorem eq_end {α : Type} [DecidableEq α] {A B : List α} (h : A.length = B.length) (ht : A.take A.length = B.take A.length) : decide (A = B) = true := by
  rw [decide_eq_true_eq]
  rw [List.take_length, h, List.take_length] at ht
  exact ht

set_option maxHeartbeats 2000000 in
theorem eqI_spec {w : World} {va vb : Value} {A B : List (Int)} (hA : CellsAt w va A.length 1 (A.map iv)) (hB : CellsAt w vb B.length 1 (B.map iv)) : Cl Tryz.prog 167 [va, vb] w fun v w' => v = .bool (decide (A = B)) ∧ Fm (fun _ => False) w w' := by
  have hlt := hA.lt
  unfold maxLen at hlt
  refine c167 ?_; unfold T167
  have dl : decide ((A.length : Int) = (B.length : Int)) = decide (A.length = B.length) := by rw [decide_eq_decide]; omega
  simp only [RS0, RS1, RS2, RS3, RS4, RS5, hA.lenV, hB.lenV, bne_dec, dl]
  cases hd : decide (A.length = B.length) with
  | false =>
    rw [decide_eq_false_iff_not] at hd
    rw [ne_len hd]
    simp only [RS0, RS1, RS2, RS3, RS4, RS5, Bool.not_false]
    exact ⟨(by trivial), Fm.refl _ _⟩
  | true =>
  rw [decide_eq_true_eq] at hd
  simp only [RS0, RS1, RS2, RS3, RS4, RS5, Bool.not_true, hA.lenV]
  refine ⟨fun vl w2 => ∃ i : Nat, vl = [iv i] ∧ i ≤ A.length ∧ A.take i = B.take i ∧ Fm (fun _ => False) w w2, fun vl _ => (A.length - nth vl 0).toNat, ⟨0, rfl, by omega, by simp, Fm.refl _ _⟩, ?_⟩
  rintro _ w2 ivv ⟨i, hvl, hi, ht, hF⟩
  cases hvl
  by_cases hl : i < A.length
  · have d1 : decide ((i : Int) < (A.length : Int)) = true := by rw [decide_eq_true_eq]; omega
    have e1 : IntKind.i64.wrap ((i : Int) + 1) = ((i + 1 : Nat) : Int) := by rw [wrap_id] <;> omega
    have hx : A[i]? = some A[i] := List.getElem?_eq_getElem hl
    have hy : B[i]? = some B[i] := List.getElem?_eq_getElem (by omega)
    generalize A[i] = x at hx
    generalize B[i] = y at hy
    have hFd := Fmf hF (Fm.drew _ w2)
    obtain ⟨ad, h1, _, h2⟩ := (hA.keep hF (fun _ _ e => e)).at1 (i := i) (x := iv x) (by rw [List.getElem?_map, hx]; rfl) .i64
    obtain ⟨ad', h3, _, h4⟩ := (hB.keep hF (fun _ _ e => e)).at1 (i := i) (x := iv y) (by rw [List.getElem?_map, hy]; rfl) .i64
    simp only [RS0, RS1, RS2, RS3, RS4, RS5, d1, h1, h2, h3, h4, bne_dec, true_and]
    cases hxy : decide (x = y) with
    | false =>
      rw [decide_eq_false_iff_not] at hxy
      rw [ne_at hx hy hxy]
      simp only [RS0, RS1, RS2, RS3, RS4, RS5, Bool.not_false]
      exact ⟨(by trivial), hFd⟩
    | true =>
      rw [decide_eq_true_eq] at hxy
      simp only [RS0, RS1, RS2, RS3, RS4, RS5, Bool.not_true, e1]
      exact ⟨⟨i + 1, rfl, by omega, take_step ht hx hy hxy, hFd⟩, by simp only [nth_0]; omega⟩
  · have hie : i = A.length := by omega
    subst hie
    have d1 : decide (((A.length : Nat) : Int) < (A.length : Int)) = false := by simp
    rw [eq_end hd ht]
    simp only [RS0, RS1, RS2, RS3, RS4, RS5, d1]
    exact ⟨(by trivial), hF⟩

set_option maxHeartbeats 2000000 in
theorem eqO_spec {w : World} {va vb : Value} {A B : List (Int × Int)} (hA : CellsAt w va A.length 2 (A.flatMap pc2)) (hB : CellsAt w vb B.length 2 (B.flatMap pc2)) : Cl Tryz.prog 171 [va, vb] w fun v w' => v = .bool (decide (A = B)) ∧ Fm (fun _ => False) w w' := by
  have hlt := hA.lt
  unfold maxLen at hlt
  refine c171 ?_; unfold T171
  have dl : decide ((A.length : Int) = (B.length : Int)) = decide (A.length = B.length) := by rw [decide_eq_decide]; omega
  simp only [RS0, RS1, RS2, RS3, RS4, RS5, hA.lenV, hB.lenV, bne_dec, dl]
  cases hd : decide (A.length = B.length) with
  | false =>
    rw [decide_eq_false_iff_not] at hd
    rw [ne_len hd]
    simp only [RS0, RS1, RS2, RS3, RS4, RS5, Bool.not_false]
    exact ⟨(by trivial), Fm.refl _ _⟩
  | true =>
  rw [decide_eq_true_eq] at hd
  simp only [RS0, RS1, RS2, RS3, RS4, RS5, Bool.not_true, hA.lenV]
  refine ⟨fun vl w2 => ∃ i : Nat, vl = [iv i] ∧ i ≤ A.length ∧ A.take i = B.take i ∧ Fm (fun _ => False) w w2, fun vl _ => (A.length - nth vl 0).toNat, ⟨0, rfl, by omega, by simp, Fm.refl _ _⟩, ?_⟩
  rintro _ w2 ivv ⟨i, hvl, hi, ht, hF⟩
  cases hvl
  by_cases hl : i < A.length
  · have d1 : decide ((i : Int) < (A.length : Int)) = true := by rw [decide_eq_true_eq]; omega
    have e1 : IntKind.i64.wrap ((i : Int) + 1) = ((i + 1 : Nat) : Int) := by rw [wrap_id] <;> omega
    have hx : A[i]? = some A[i] := List.getElem?_eq_getElem hl
    have hy : B[i]? = some B[i] := List.getElem?_eq_getElem (by omega)
    generalize A[i] = x at hx
    generalize B[i] = y at hy
    have hFd := Fmf hF (Fm.drew _ w2)
    obtain ⟨ad, h1, h2, _⟩ := cells_ld pc2_len (by omega) (hA.keep hF (fun _ _ e => e)) hx
    obtain ⟨ad', h3, h4, _⟩ := cells_ld pc2_len (by omega) (hB.keep hF (fun _ _ e => e)) hy
    have h2' := cellsV_keep h2 (Fm.drew (fun _ => False) w2) (fun e => e)
    have h4' := cellsV_keep h4 (Fm.drew (fun _ => False) w2) (fun e => e)
    simp only [RS0, RS1, RS2, RS3, RS4, RS5, d1, h1, h2, h2', h3, h4, h4', true_and]
    refine RunS_ok (neq96 _ _ x y _) ?_
    simp only [RS0, RS1, RS2, RS3, RS4, RS5, true_and]
    cases hxy : decide (x = y) with
    | false =>
      rw [decide_eq_false_iff_not] at hxy
      rw [ne_at hx hy hxy]
      simp only [RS0, RS1, RS2, RS3, RS4, RS5, Bool.not_false]
      exact ⟨(by trivial), hFd⟩
    | true =>
      rw [decide_eq_true_eq] at hxy
      simp only [RS0, RS1, RS2, RS3, RS4, RS5, Bool.not_true, e1]
      exact ⟨⟨i + 1, rfl, by omega, take_step ht hx hy hxy, hFd⟩, by simp only [nth_0]; omega⟩
  · have hie : i = A.length := by omega
    subst hie
    have d1 : decide (((A.length : Nat) : Int) < (A.length : Int)) = false := by simp
    rw [eq_end hd ht]
    simp only [RS0, RS1, RS2, RS3, RS4, RS5, d1]
    exact ⟨(by trivial), hF⟩

set_option maxHeartbeats 2000000 in
theorem eqB_spec {w : World} {va vb : Value} {A B : List (Int × Int)} (hA : CellsAt w va A.length 2 (A.flatMap pc2)) (hB : CellsAt w vb B.length 2 (B.flatMap pc2)) : Cl Tryz.prog 172 [va, vb] w fun v w' => v = .bool (decide (A = B)) ∧ Fm (fun _ => False) w w' := by
  have hlt := hA.lt
  unfold maxLen at hlt
  refine c172 ?_; unfold T172
  have dl : decide ((A.length : Int) = (B.length : Int)) = decide (A.length = B.length) := by rw [decide_eq_decide]; omega
  simp only [RS0, RS1, RS2, RS3, RS4, RS5, hA.lenV, hB.lenV, bne_dec, dl]
  cases hd : decide (A.length = B.length) with
  | false =>
    rw [decide_eq_false_iff_not] at hd
    rw [ne_len hd]
    simp only [RS0, RS1, RS2, RS3, RS4, RS5, Bool.not_false]
    exact ⟨(by trivial), Fm.refl _ _⟩
  | true =>
  rw [decide_eq_true_eq] at hd
  simp only [RS0, RS1, RS2, RS3, RS4, RS5, Bool.not_true, hA.lenV]
  refine ⟨fun vl w2 => ∃ i : Nat, vl = [iv i] ∧ i ≤ A.length ∧ A.take i = B.take i ∧ Fm (fun _ => False) w w2, fun vl _ => (A.length - nth vl 0).toNat, ⟨0, rfl, by omega, by simp, Fm.refl _ _⟩, ?_⟩
  rintro _ w2 ivv ⟨i, hvl, hi, ht, hF⟩
  cases hvl
  by_cases hl : i < A.length
  · have d1 : decide ((i : Int) < (A.length : Int)) = true := by rw [decide_eq_true_eq]; omega
    have e1 : IntKind.i64.wrap ((i : Int) + 1) = ((i + 1 : Nat) : Int) := by rw [wrap_id] <;> omega
    have hx : A[i]? = some A[i] := List.getElem?_eq_getElem hl
    have hy : B[i]? = some B[i] := List.getElem?_eq_getElem (by omega)
    generalize A[i] = x at hx
    generalize B[i] = y at hy
    have hFd := Fmf hF (Fm.drew _ w2)
    obtain ⟨ad, h1, h2, _⟩ := cells_ld pc2_len (by omega) (hA.keep hF (fun _ _ e => e)) hx
    obtain ⟨ad', h3, h4, _⟩ := cells_ld pc2_len (by omega) (hB.keep hF (fun _ _ e => e)) hy
    have h2' := cellsV_keep h2 (Fm.drew (fun _ => False) w2) (fun e => e)
    have h4' := cellsV_keep h4 (Fm.drew (fun _ => False) w2) (fun e => e)
    simp only [RS0, RS1, RS2, RS3, RS4, RS5, d1, h1, h2, h2', h3, h4, h4', true_and]
    refine RunS_ok (neq99 _ _ x y _) ?_
    simp only [RS0, RS1, RS2, RS3, RS4, RS5, true_and]
    cases hxy : decide (x = y) with
    | false =>
      rw [decide_eq_false_iff_not] at hxy
      rw [ne_at hx hy hxy]
      simp only [RS0, RS1, RS2, RS3, RS4, RS5, Bool.not_false]
      exact ⟨(by trivial), hFd⟩
    | true =>
      rw [decide_eq_true_eq] at hxy
      simp only [RS0, RS1, RS2, RS3, RS4, RS5, Bool.not_true, e1]
      exact ⟨⟨i + 1, rfl, by omega, take_step ht hx hy hxy, hFd⟩, by simp only [nth_0]; omega⟩
  · have hie : i = A.length := by omega
    subst hie
    have d1 : decide (((A.length : Nat) : Int) < (A.length : Int)) = false := by simp
    rw [eq_end hd ht]
    simp only [RS0, RS1, RS2, RS3, RS4, RS5, d1]
    exact ⟨(by trivial), hF⟩

set_option maxHeartbeats 1000000 in
theorem eqim1 {w : World} {m n : Int} {p q : Pg} {u v : Value} (hp : PgAs w (pcs p u) p) (hq : PgAs w (pcs q v) q) : Cl Tryz.prog 168 [.agg (imC (m, p, u)).toArray, .agg (imC (n, q, v)).toArray] w fun r w' => r = .bool (decide ((m, p) = (n, q))) ∧ Fm (fun _ => False) w w' := by
  refine c168 ?_; unfold T168
  refine New_any ?_
  intro x1 w1 hx1 hs1 hw1 hf1
  refine New_any ?_
  intro x2 w2 hx2 hs2 hw2 hf2
  have hw12 : w2.heap[x1]? = some (.cells (imC (m, p, u)).toArray 118) := hf2.heap hw1 (fun e => e)
  have hw2' : w2.heap[x2]? = some (.cells (imC (n, q, v)).toArray 118) := hw2
  have c1 : w2.cell? ⟨x1, 0, none⟩ = some (iv m) := by rw [cell_at hw12]; rfl
  have c2 : w2.cell? ⟨x2, 0, none⟩ = some (iv n) := by rw [cell_at hw2']; rfl
  have hF2 := Fmf hf1 hf2
  simp only [RS0, RS1, RS2, RS3, RS4, RS5, c1, c2, beq_dec]
  cases h0 : decide (m = n) with
  | false =>
    rw [decide_eq_false_iff_not] at h0
    have : decide ((m, p) = (n, q)) = false := by rw [decide_eq_false_iff_not]; rintro e; cases e; exact h0 rfl
    rw [this]
    simp only [RS0, RS1, RS2, RS3, RS4, RS5]
    exact ⟨(by trivial), hF2⟩
  | true =>
    rw [decide_eq_true_eq] at h0
    subst h0
    simp only [RS0, RS1, RS2, RS3, RS4, RS5, im_body hw12, im_body hw2']
    refine (same_spec (hp.keep hF2) (hq.keep hF2)).mono ?_
    rintro _ w3 ⟨rfl, hf3⟩
    try simp only [RS0, RS1, RS2, RS3, RS4, RS5]
    refine ⟨?_, Fmf hF2 hf3⟩
    congr 1
    rw [decide_eq_decide]
    simp
set_option maxHeartbeats 2000000 in
theorem eqIm_spec {w : World} {va vb : Value} {A B : List (Int × Pg)} (hA : ImAs w va A) (hB : ImAs w vb B) (hlt : A.length ≤ 9000000000) : Cl Tryz.prog 170 [va, vb, .func (.func 168) #[] #[]] w fun v w' => v = .bool (decide (A = B)) ∧ Fm (fun _ => False) w w' := by
  refine c170 ?_; unfold T170
  have dl : decide ((A.length : Int) = (B.length : Int)) = decide (A.length = B.length) := by rw [decide_eq_decide]; omega
  simp only [RS0, RS1, RS2, RS3, RS4, RS5, hA.lenV, hB.lenV, bne_dec, dl]
  cases hd : decide (A.length = B.length) with
  | false =>
    rw [decide_eq_false_iff_not] at hd
    rw [ne_len hd]
    simp only [RS0, RS1, RS2, RS3, RS4, RS5, Bool.not_false]
    exact ⟨(by trivial), Fm.refl _ _⟩
  | true =>
  rw [decide_eq_true_eq] at hd
  simp only [RS0, RS1, RS2, RS3, RS4, RS5, Bool.not_true, hA.lenV]
  refine ⟨fun vl w2 => ∃ i : Nat, vl = [iv i] ∧ i ≤ A.length ∧ A.take i = B.take i ∧ Fm (fun _ => False) w w2, fun vl _ => (A.length - nth vl 0).toNat, ⟨0, rfl, by omega, by simp, Fm.refl _ _⟩, ?_⟩
  rintro _ w2 ivv ⟨i, hvl, hi, ht, hF⟩
  cases hvl
  by_cases hl : i < A.length
  · have d1 : decide ((i : Int) < (A.length : Int)) = true := by rw [decide_eq_true_eq]; omega
    have e1 : IntKind.i64.wrap ((i : Int) + 1) = ((i + 1 : Nat) : Int) := by rw [wrap_id] <;> omega
    have hx : A[i]? = some A[i] := List.getElem?_eq_getElem hl
    have hy : B[i]? = some B[i] := List.getElem?_eq_getElem (by omega)
    generalize A[i] = x at hx
    generalize B[i] = y at hy
    obtain ⟨ad, u, h1, h2, hu, hpu⟩ := (hA.keep hF).ld hx
    simp only [RS0, RS1, RS2, RS3, RS4, RS5, d1, h1, h2]
    refine New_any ?_
    intro x3 w3 hx3 hs3 hw3 hf3
    have one : ∀ {p : Pg} {u : Value} {m : Int}, u.oneCell' = true → ∀ q ∈ (imC (m, p, u)), q.oneCell' = true := fun hu q hq => by
      simp [imC, pcs] at hq
      rcases hq with rfl | rfl | rfl | rfl | rfl | rfl | rfl <;> first | rfl | exact hu
    refine St_all hw3 rfl (imC_len _) (one hu) ?_
    intro w4 hw4 hs4 hf4
    have hf24 : Fm (fun _ => False) w2 w4 := Fm.own hf3 hf4 (by rintro y rfl; omega)
    have hF4 := Fmf hF hf24
    obtain ⟨ad', v, h3, h4, hv, hqv⟩ := (hB.keep hF4).ld hy
    simp only [RS0, RS1, RS2, RS3, RS4, RS5, h3, h4]
    refine New_any ?_
    intro x5 w5 hx5 hs5 hw5 hf5
    refine St_all hw5 rfl (imC_len _) (one hv) ?_
    intro w6 hw6 hs6 hf6
    have hf46 : Fm (fun _ => False) w4 w6 := Fm.own hf5 hf6 (by rintro y rfl; omega)
    have hw46 := hf46.heap hw4 (fun e => e)
    simp only [RS0, RS1, RS2, RS3, RS4, RS5, cellsV_blk hw46 (imC_len _), cellsV_blk hw6 (imC_len _)]
    refine ClV_func (by kernel_rfl) ?_
    refine (eqim1 ((hpu.keep hf24).keep hf46) (hqv.keep hf46)).mono ?_
    rintro _ w7 ⟨rfl, hf7⟩
    have hF7 := Fmf hF4 (Fmf hf46 hf7)
    cases hxy : decide ((x.1, x.2) = (y.1, y.2)) with
    | false =>
      rw [decide_eq_false_iff_not] at hxy
      rw [ne_at hx hy hxy]
      simp only [RS0, RS1, RS2, RS3, RS4, RS5, Bool.not_false]
      exact ⟨(by trivial), hF7⟩
    | true =>
      rw [decide_eq_true_eq] at hxy
      simp only [RS0, RS1, RS2, RS3, RS4, RS5, Bool.not_true, e1]
      exact ⟨⟨i + 1, rfl, by omega, take_step ht hx hy hxy, hF7⟩, by simp only [nth_0]; omega⟩
  · have hie : i = A.length := by omega
    subst hie
    have d1 : decide (((A.length : Nat) : Int) < (A.length : Int)) = false := by simp
    rw [eq_end hd ht]
    simp only [RS0, RS1, RS2, RS3, RS4, RS5, d1]
    exact ⟨(by trivial), hF⟩

theorem rc_ne {α : Type} {a b : Rc} (f : Rc → α) (h : f a ≠ f b) : decide (a = b) = false := by
  rw [decide_eq_false_iff_not]
  rintro rfl
  exact h rfl
set_option maxHeartbeats 8000000 in
theorem rcsame_spec {w : World} {ca cb : Array Value} {a b : Rc} (ha : RcAs w ca a) (hb : RcAs w cb b) : Cl Tryz.prog 91 [.agg ca, .agg cb] w fun v w' => v = .bool (decide (a = b)) ∧ Fm (fun _ => False) w w' := by
  obtain ⟨as_, am, ai, ap, at_, hca, _, has, ham, hai, hap, hat⟩ := ha.ex
  obtain ⟨bs_, bm, bi, bp, bt, hcb, _, hbs, hbm, hbi, hbp, hbt⟩ := hb.ex
  have hbulk := ha.bulk
  refine c91 ?_; unfold T91
  refine New_any ?_
  intro x1 w1 hx1 hs1 hw1 hf1
  refine New_any ?_
  intro x2 w2 hx2 hs2 hw2 hf2
  have hRa : RB w2 x1 a as_ am ai ap at_ := ⟨by rw [← hca]; exact hf2.heap hw1 (fun e => e)⟩
  have hRb : RB w2 x2 b bs_ bm bi bp bt := ⟨by rw [← hcb]; exact hw2⟩
  have hF2 := Fmf hf1 hf2
  simp only [RS0, RS1, RS2, RS3, RS4, RS5, Bool.not_true, hRa.c0, hRb.c0, bne_dec]
  cases g0 : decide (a.lsn = b.lsn) with
  | false =>
    rw [decide_eq_false_iff_not] at g0
    rw [rc_ne Rc.lsn g0]
    simp only [RS0, RS1, RS2, RS3, RS4, RS5, Bool.not_false]
    exact ⟨(by trivial), hF2⟩
  | true =>
  simp only [RS0, RS1, RS2, RS3, RS4, RS5, Bool.not_true, hRa.c1, hRb.c1, bne_dec]
  cases g1 : decide (a.prev = b.prev) with
  | false =>
    rw [decide_eq_false_iff_not] at g1
    rw [rc_ne Rc.prev g1]
    simp only [RS0, RS1, RS2, RS3, RS4, RS5, Bool.not_false]
    exact ⟨(by trivial), hF2⟩
  | true =>
  simp only [RS0, RS1, RS2, RS3, RS4, RS5, Bool.not_true, hRa.c2, hRb.c2, bne_dec]
  cases g2 : decide (a.next = b.next) with
  | false =>
    rw [decide_eq_false_iff_not] at g2
    rw [rc_ne Rc.next g2]
    simp only [RS0, RS1, RS2, RS3, RS4, RS5, Bool.not_false]
    exact ⟨(by trivial), hF2⟩
  | true =>
  simp only [RS0, RS1, RS2, RS3, RS4, RS5, Bool.not_true, hRa.c3, hRb.c3, bne_dec]
  cases g3 : decide (a.kind = b.kind) with
  | false =>
    rw [decide_eq_false_iff_not] at g3
    rw [rc_ne Rc.kind g3]
    simp only [RS0, RS1, RS2, RS3, RS4, RS5, Bool.not_false]
    exact ⟨(by trivial), hF2⟩
  | true =>
  simp only [RS0, RS1, RS2, RS3, RS4, RS5, Bool.not_true, hRa.c4, hRb.c4, bne_dec]
  cases g4 : decide (a.xid = b.xid) with
  | false =>
    rw [decide_eq_false_iff_not] at g4
    rw [rc_ne Rc.xid g4]
    simp only [RS0, RS1, RS2, RS3, RS4, RS5, Bool.not_false]
    exact ⟨(by trivial), hF2⟩
  | true =>
  simp only [RS0, RS1, RS2, RS3, RS4, RS5, Bool.not_true, hRa.c5, hRb.c5, bne_dec]
  cases g5 : decide (a.page = b.page) with
  | false =>
    rw [decide_eq_false_iff_not] at g5
    rw [rc_ne Rc.page g5]
    simp only [RS0, RS1, RS2, RS3, RS4, RS5, Bool.not_false]
    exact ⟨(by trivial), hF2⟩
  | true =>
  simp only [RS0, RS1, RS2, RS3, RS4, RS5, Bool.not_true, hRa.c6, hRb.c6, bne_dec]
  cases g6 : decide (a.slot = b.slot) with
  | false =>
    rw [decide_eq_false_iff_not] at g6
    rw [rc_ne Rc.slot g6]
    simp only [RS0, RS1, RS2, RS3, RS4, RS5, Bool.not_false]
    exact ⟨(by trivial), hF2⟩
  | true =>
  simp only [RS0, RS1, RS2, RS3, RS4, RS5, Bool.not_true, hRa.c7, hRb.c7, bne_dec]
  cases g7 : decide (a.old = b.old) with
  | false =>
    rw [decide_eq_false_iff_not] at g7
    rw [rc_ne Rc.old g7]
    simp only [RS0, RS1, RS2, RS3, RS4, RS5, Bool.not_false]
    exact ⟨(by trivial), hF2⟩
  | true =>
  simp only [RS0, RS1, RS2, RS3, RS4, RS5, Bool.not_true, hRa.c8, hRb.c8, bne_dec]
  cases g8 : decide (a.new = b.new) with
  | false =>
    rw [decide_eq_false_iff_not] at g8
    rw [rc_ne Rc.new g8]
    simp only [RS0, RS1, RS2, RS3, RS4, RS5, Bool.not_false]
    exact ⟨(by trivial), hF2⟩
  | true =>
  simp only [RS0, RS1, RS2, RS3, RS4, RS5, Bool.not_true, hRa.c9, hRb.c9, bne_dec]
  cases g9 : decide (a.redo = b.redo) with
  | false =>
    rw [decide_eq_false_iff_not] at g9
    rw [rc_ne Rc.redo g9]
    simp only [RS0, RS1, RS2, RS3, RS4, RS5, Bool.not_false]
    exact ⟨(by trivial), hF2⟩
  | true =>
  simp only [RS0, RS1, RS2, RS3, RS4, RS5, Bool.not_true, hRa.c10, hRb.c10, str_inj]
  cases g10 : decide (a.data = b.data) with
  | false =>
    rw [decide_eq_false_iff_not] at g10
    rw [rc_ne Rc.data g10]
    simp only [RS0, RS1, RS2, RS3, RS4, RS5, Bool.not_false]
    exact ⟨(by trivial), hF2⟩
  | true =>
  simp only [RS0, RS1, RS2, RS3, RS4, RS5, Bool.not_true, hRa.c11, hRb.c11]
  refine (eqI_spec (has.keep hF2 (fun _ _ e => e)) (hbs.keep hF2 (fun _ _ e => e))).mono ?_
  rintro _ w3 ⟨rfl, hf3⟩
  have hF3 := Fmf hF2 hf3
  have hRa3 := hRa.keep hf3 (fun e => e)
  have hRb3 := hRb.keep hf3 (fun e => e)
  cases g11 : decide (a.slots = b.slots) with
  | false =>
    rw [decide_eq_false_iff_not] at g11
    rw [rc_ne Rc.slots g11]
    simp only [RS0, RS1, RS2, RS3, RS4, RS5, Bool.not_false]
    exact ⟨(by trivial), hF3⟩
  | true =>
  simp only [RS0, RS1, RS2, RS3, RS4, RS5, Bool.not_true, hRa3.c12, hRb3.c12]
  refine (eqI_spec (ham.keep hF3 (fun _ _ e => e)) (hbm.keep hF3 (fun _ _ e => e))).mono ?_
  rintro _ w4 ⟨rfl, hf4⟩
  have hF4 := Fmf hF3 hf4
  have hRa4 := hRa3.keep hf4 (fun e => e)
  have hRb4 := hRb3.keep hf4 (fun e => e)
  cases g12 : decide (a.more = b.more) with
  | false =>
    rw [decide_eq_false_iff_not] at g12
    rw [rc_ne Rc.more g12]
    simp only [RS0, RS1, RS2, RS3, RS4, RS5, Bool.not_false]
    exact ⟨(by trivial), hF4⟩
  | true =>
  simp only [RS0, RS1, RS2, RS3, RS4, RS5, Bool.not_true, hRa4.c13, hRb4.c13]
  refine (eqIm_spec (hai.keep hF4) (hbi.keep hF4) (by omega)).mono ?_
  rintro _ w5 ⟨rfl, hf5⟩
  have hF5 := Fmf hF4 hf5
  have hRa5 := hRa4.keep hf5 (fun e => e)
  have hRb5 := hRb4.keep hf5 (fun e => e)
  cases g13 : decide (a.imgs = b.imgs) with
  | false =>
    rw [decide_eq_false_iff_not] at g13
    rw [rc_ne Rc.imgs g13]
    simp only [RS0, RS1, RS2, RS3, RS4, RS5]
    exact ⟨(by trivial), hF5⟩
  | true =>
  simp only [RS0, RS1, RS2, RS3, RS4, RS5, hRa5.c14, hRb5.c14]
  refine (eqO_spec (hap.keep hF5 (fun _ _ e => e)) (hbp.keep hF5 (fun _ _ e => e))).mono ?_
  rintro _ w6 ⟨rfl, hf6⟩
  have hF6 := Fmf hF5 hf6
  have hRa6 := hRa5.keep hf6 (fun e => e)
  have hRb6 := hRb5.keep hf6 (fun e => e)
  cases g14 : decide (a.pages = b.pages) with
  | false =>
    rw [decide_eq_false_iff_not] at g14
    rw [rc_ne Rc.pages g14]
    simp only [RS0, RS1, RS2, RS3, RS4, RS5]
    exact ⟨(by trivial), hF6⟩
  | true =>
  simp only [RS0, RS1, RS2, RS3, RS4, RS5, hRa6.c15, hRb6.c15]
  refine (eqB_spec (hat.keep hF6 (fun _ _ e => e)) (hbt.keep hF6 (fun _ _ e => e))).mono ?_
  rintro _ w7 ⟨rfl, hf7⟩
  try simp only [RS0, RS1, RS2, RS3, RS4, RS5]
  refine ⟨?_, Fmf hF6 hf7⟩
  congr 1
  rw [decide_eq_decide]
  rw [decide_eq_true_eq] at g0 g1 g2 g3 g4 g5 g6 g7 g8 g9 g10 g11 g12 g13 g14
  obtain ⟨a0, a1, a2, a3, a4, a5, a6, a7, a8, a9, a10, a11, a12, a13, a14, a15⟩ := a
  obtain ⟨b0, b1, b2, b3, b4, b5, b6, b7, b8, b9, b10, b11, b12, b13, b14, b15⟩ := b
  simp only at g0 g1 g2 g3 g4 g5 g6 g7 g8 g9 g10 g11 g12 g13 g14
  subst g0 g1 g2 g3 g4 g5 g6 g7 g8 g9 g10 g11 g12 g13 g14
  simp

end Go.Proofs.YthbngnlmgplijaaGreatDoor

namespace Go.Proofs.YthbngnlmgplijaaGreatDoor
open Go.Al Go.Proofs
set_option linter.unusedVariables false
set_option linter.unusedSimpArgs false
set_option linter.unusedSectionVars false
set_option maxRecDepth 100000

def rcS : Rc := ⟨1, 0, 0, 8, 0, 1, 0, 0, 0, 0, [], [], [], [], [], []⟩
theorem encI_small {n : Nat} (h : n ≤ 127) : encI n = [UInt8.ofNat n] := by rw [encI_nat, encN_small h]
theorem bodyS : rBody rcS = [1, 0, 0, 8, 0, 1, 0, 0, 0, 0, 0, 0, 0, 0, 0, 0] := by
  have e0 : encI 0 = [0] := encI_small (n := 0) (by omega)
  have e1 : encI 1 = [1] := encI_small (n := 1) (by omega)
  have e8 : encI 8 = [8] := encI_small (n := 8) (by omega)
  have e0' : encI ((0 : Nat) : Int) = [0] := e0
  simp only [rBody, rcS, numsB, headL, txtB, listB, List.length_nil, List.flatMap_cons, List.flatMap_nil, e0, e0', e1, e8]
  rfl
theorem bndS : Bnd rcS := ⟨by intro n hn; simp [rNums, rcS, prs] at hn; unfold okN; omega, by simp [rcS], by simp [rcS], by simp [rcS], by simp [rcS], by simp [rcS], by simp [rcS], by simp [rcS], by simp [rcS]⟩
theorem rowsS (w : World) (b : Nat) : Rows w b rcS nl nl nl nl nl := ⟨World.ownsRow_nil _ _ _ _, World.ownsRow_nil _ _ _ _, ⟨[], rfl, World.ownsRow_nil _ _ _ _, by simp⟩, World.ownsRow_nil _ _ _ _, World.ownsRow_nil _ _ _ _⟩
theorem checkS : (rCheck rcS).2 = 0 := by
  have : rCheck rcS = rInner rcS := rfl
  rw [this]
  unfold rInner
  rw [bodyS]
  rfl
theorem check0 : (rCheck rc0).2 = 41 := rfl
theorem lsnS : ∀ m ∈ rcS.imgs, m.2.lsn ≤ 9223372036854775807 := by simp [rcS]
theorem bld52s (w : World) : (Instr.build 28 #[(0, iv 1), (3, .int .u8 8), (5, iv 1)]).run Tryz.prog w = .ok (.agg (rcs rcS nl nl nl nl nl)) w := by kernel_rfl
theorem small_spec (w : World) : Cl Tryz.prog 90 [] w fun v w' => v = .agg (rcs rcS nl nl nl nl nl) ∧ Fm (fun _ => False) w w' := by
  refine c90 ?_; unfold T90
  refine New_any ?_
  intro x w1 hx hs1 hw1 hf1
  refine RunS_ok (bld52s _) ?_
  refine St_all hw1 rfl rfl (rcs_one rfl rfl rfl rfl rfl) ?_
  intro w2 hw2 hs2 hf2
  have hret : RetO (resL Tryz.prog (fun j => bif Nat.beq j 0 then pv x else undef) w2 [(ResultVar.cell 0 28)]) w2 (fun v w' => v = .agg (rcs rcS nl nl nl nl nl) ∧ Fm (fun _ => False) w w') := by
    simp only [resL, resV_blk (f := fun j => bif Nat.beq j 0 then pv x else undef) (a := 0) rfl agg52 size52 hw2 rfl, RetO, RetV]
    exact ⟨(by trivial), Fm.own hf1 hf2 (by rintro y rfl; omega)⟩
  exact hret
theorem min_fold (a b : Int) : foldV0 min2V [iv a, iv b] = some (iv (min a b)) := by
  have : min2V (iv a) (iv b) = some (iv (min a b)) := by
    show some (iv (if b < a then b else a)) = _
    congr 2
    split <;> omega
  simp only [foldV0, foldV, this, Option.bind_some]

set_option maxHeartbeats 4000000 in
theorem recawake_spec (w : World) : Cl Tryz.prog 16 [] w fun r w' => r = .bool true ∧ Fm (fun _ => False) w w' := by
  refine c16 ?_; unfold T16
  refine (small_spec w).mono ?_
  rintro _ w1 ⟨rfl, hf1⟩
  have hS : ∀ w', RcAs w' (rcs rcS nl nl nl nl nl) rcS := fun w' => (rowsS w' 0).asR bndS
  have h0 : ∀ w', RcAs w' (rcs rc0 nl nl nl nl nl) rc0 := fun w' => (rows0 w' 0).asR bnd0
  refine (renc_spec (hS w1)).mono ?_
  rintro _ w2 ⟨rfl, hf2⟩
  have hF2 := Fmf hf1 hf2
  have hdb := dec_back checkS lsnS []
  have hds := dec_short checkS lsnS (k := 7)
  have hen := rEnc_ok checkS lsnS
  rw [bodyS] at hen
  have hl : (rEnc rcS).1.length = 24 := by
    rw [hen]
    simp only [List.length_append, beN_len, List.length_cons, List.length_nil]
  have h3 : (rEnc rcS).1[3]? = some 16 := by
    rw [hen]
    simp only [List.append_assoc]
    rw [List.getElem?_append_left (by rw [beN_len]; omega)]
    rfl
  have h8 : (rEnc rcS).1[8]? = some 1 := by
    rw [hen]
    simp only
    rw [List.getElem?_append_right (by rw [List.length_append, beN_len, beN_len]; omega), List.length_append, beN_len, beN_len]
    rfl
  have he : (rEnc rcS).2 = 0 := by rw [hen]
  rw [he]
  rw [List.append_nil] at hdb
  have hds' := hds (by omega)
  generalize (rEnc rcS).1 = s at hdb hds' hl h3 h8 ⊢
  simp only [RS0, RS1, RS2, RS3, RS4, RS5]
  refine (rdec_spec w2 s (by omega)).mono ?_
  rintro _ w3 ⟨cs3, rfl, hO3, hf3⟩
  rw [hdb] at hO3 ⊢
  have hA3 : RcAs w3 cs3 rcS := hO3.as
  have hF3 := Fmf hF2 hf3
  simp only [RS0, RS1, RS2, RS3, RS4, RS5]
  refine New_any ?_
  intro x5 w4 hx5 hs4 hw4 hf4
  refine St_all hw4 rfl hA3.size hA3.one ?_
  intro w5 hw5 hs5 hf5
  have hf35 : Fm (fun _ => False) w3 w5 := Fm.own hf4 hf5 (by rintro y rfl; omega)
  have hF5 := Fmf hF3 hf35
  have hmin := min_fold 24 7
  have hm7 : min (24 : Int) 7 = ((7 : Nat) : Int) := by omega
  rw [hm7] at hmin
  have s7 := slS_hi (l := s) (i := 7) (by omega) .i64
  have hsz : (str s).size = 24 := by rw [str_size]; exact hl
  have hmin' : foldV0 min2V [Value.int .i64 (((str s).size : Nat) : Int), Value.int .i64 7] = some (iv ((7 : Nat) : Int)) := by rw [hsz]; exact hmin
  simp only [RS0, RS1, RS2, RS3, RS4, RS5, hmin', s7]
  refine (rdec_spec w5 (s.take 7) (by rw [List.length_take]; omega)).mono ?_
  rintro _ w6 ⟨cs6, rfl, hO6, hf6⟩
  rw [hds'] at hO6 ⊢
  have hA6 : RcAs w6 cs6 rc0 := hO6.as
  have hq6 := hf6.heap hw5 (fun e => e)
  have hF6 := Fmf hF5 hf6
  simp only [RS0, RS1, RS2, RS3, RS4, RS5]
  refine New_any ?_
  intro x7 w7 hx7 hs7 hw7 hf7
  refine St_all hw7 rfl hA6.size hA6.one ?_
  intro w8 hw8 hs8 hf8
  have hf68 : Fm (fun _ => False) w6 w8 := Fm.own hf7 hf8 (by rintro y rfl; omega)
  have hf69 := Fmf hf68 (Fm.drew (fun _ => False) w8)
  have hq9 : w8.drew.heap[x5]? = some (.cells cs3 28) := hf69.heap hq6 (fun e => e)
  have hF9 := Fmf hF6 hf69
  refine ⟨fun w' => w'.heap[x5]? = some (.cells cs3 28), hq9, ?_⟩
  have hA9 := hA3.keep (Fmf hf35 (Fmf hf6 hf69))
  generalize w8.drew = w9 at hf69 hq9 hF9 hA9
  have e24 : ((((str s).size : Nat) : Int) == 24) = true := by rw [hsz]; rfl
  have i3 : ixS (stv s) (Value.int .i64 3) = some (.int .u8 16) := ixS_str h3 .i64
  have i8 : ixS (stv s) (Value.int .i64 8) = some (.int .u8 1) := ixS_str h8 .i64
  have e24' : (((s.length : Nat) : Int) == 24) = true := by rw [hl]; rfl
  simp only [RS0, RS1, RS2, RS3, RS4, RS5, beq_self_eq_true, e24, e24', i3, i8]
  refine ⟨.agg cs3, fun w10 h10 => ?_, ?_⟩
  · simp only [RS0, RS1, RS2, RS3, RS4, RS5, cellsV_blk h10 hA3.size]; trivial
  refine (small_spec w9).mono ?_
  rintro _ w10 ⟨rfl, hf10⟩
  refine ⟨hf10.heap hq9 (fun e => e), ?_⟩
  refine (rcsame_spec (hA9.keep hf10) (hS w10)).mono ?_
  rintro _ w11 ⟨rfl, hf11⟩
  simp only [RS0, RS1, RS2, RS3, RS4, RS5, decide_true]
  refine RunS_ok (bld52z _) ⟨rfl, ?_⟩
  refine (check_spec (h0 w11)).mono ?_
  rintro _ w12 ⟨rfl, hf12⟩
  rw [check0]
  simp only [RS0, RS1, RS2, RS3, RS4, RS5, beq_self_eq_true]
  exact ⟨(by trivial), Fmf hF9 (Fmf hf10 (Fmf hf11 hf12))⟩

end Go.Proofs.YthbngnlmgplijaaGreatDoor

namespace Go.Proofs.YthbngnlmgplijaaGreatDoor
open Go.Al Go.Proofs
set_option linter.unusedVariables false
set_option linter.unusedSimpArgs false
set_option linter.unusedSectionVars false
set_option maxRecDepth 100000

theorem cellsV_cellS {w : World} {ad : Addr} {n : Nat} {cs : Array Value} (h : cellsV w ad n = some (.agg cs)) {i : Nat} {x : Value} (hx : cs[i]? = some x) : w.cell? (ad.add i) = some x := by
  have key : ∀ (n j : Nat) (l : List Value), cellsAt w ad j n = some l → ∀ (i : Nat) (x : Value), l[i]? = some x → w.cell? (ad.add (j + i)) = some x := by
    intro n
    induction n with
    | zero => intro j l hl i x hx; simp only [cellsAt, Option.some.injEq] at hl; subst hl; simp at hx
    | succ n ih =>
      intro j l hl i x hx
      simp only [cellsAt] at hl
      cases hc : w.cell? (ad.add j) with
      | none => rw [hc] at hl; cases hl
      | some v =>
        rw [hc] at hl
        cases hr : cellsAt w ad (j + 1) n with
        | none => rw [hr] at hl; cases hl
        | some l' =>
          rw [hr] at hl
          simp only [Option.map_some, Option.some.injEq] at hl
          subst hl
          cases i with
          | zero => simp at hx; subst hx; exact hc
          | succ i =>
            have := ih (j + 1) l' hr i x (by simpa using hx)
            rw [show j + (i + 1) = j + 1 + i by omega]; exact this
  unfold cellsV at h
  cases hc : cellsAt w ad 0 n with
  | none => rw [hc] at h; cases h
  | some l =>
    rw [hc] at h
    simp only [Option.map_some, Option.some.injEq, Value.agg.injEq] at h
    subst h
    have := key n 0 l hc i x (by simpa using hx)
    rw [Nat.zero_add] at this; exact this
theorem im_subS {w : World} {ad : Addr} {m : Int} {p : Pg} {u : Value} (h : cellsV w ad 7 = some (.agg (imC (m, p, u)).toArray)) : cellsV w (ad.add 1) 6 = some (.agg (pcs p u)) := by
  refine cellsV_of (l := (pcs p u).toList) rfl fun j hj => ?_
  rw [add_add, Nat.add_comm 1 j]
  have hx : (imC (m, p, u)).toArray[j + 1]? = (pcs p u).toList[j]? := by
    rw [List.getElem?_toArray]; rfl
  have hlt : j < (pcs p u).toList.length := hj
  rw [List.getElem?_eq_getElem hlt] at hx ⊢
  exact cellsV_cellS h (i := j + 1) hx

set_option maxHeartbeats 2000000 in
theorem rints_spec {w : World} {va vb : Value} {A B : List (Int)} (hA : CellsAt w va A.length 1 (A.map iv)) (hB : CellsAt w vb B.length 1 (B.map iv)) : Cl Tryz.prog 88 [va, vb] w fun v w' => v = .bool (decide (A = B)) ∧ Fm (fun _ => False) w w' := by
  have hlt := hA.lt
  unfold maxLen at hlt
  refine c88 ?_; unfold T88
  have dl : decide ((A.length : Int) = (B.length : Int)) = decide (A.length = B.length) := by rw [decide_eq_decide]; omega
  simp only [RS0, RS1, RS2, RS3, RS4, RS5, hA.lenV, hB.lenV, bne_dec, dl]
  cases hd : decide (A.length = B.length) with
  | false =>
    rw [decide_eq_false_iff_not] at hd
    rw [ne_len hd]
    simp only [RS0, RS1, RS2, RS3, RS4, RS5, Bool.not_false]
    exact ⟨(by trivial), Fm.refl _ _⟩
  | true =>
  rw [decide_eq_true_eq] at hd
  simp only [RS0, RS1, RS2, RS3, RS4, RS5, Bool.not_true, hA.lenV]
  refine ⟨fun vl w2 => ∃ i : Nat, vl = [iv i] ∧ i ≤ A.length ∧ A.take i = B.take i ∧ Fm (fun _ => False) w w2, fun vl _ => (A.length - nth vl 0).toNat, ⟨0, rfl, by omega, by simp, Fm.refl _ _⟩, ?_⟩
  rintro _ w2 ivv ⟨i, hvl, hi, ht, hF⟩
  cases hvl
  by_cases hl : i < A.length
  · have d1 : decide ((i : Int) < (A.length : Int)) = true := by rw [decide_eq_true_eq]; omega
    have e1 : IntKind.i64.wrap ((i : Int) + 1) = ((i + 1 : Nat) : Int) := by rw [wrap_id] <;> omega
    have hx : A[i]? = some A[i] := List.getElem?_eq_getElem hl
    have hy : B[i]? = some B[i] := List.getElem?_eq_getElem (by omega)
    generalize A[i] = x at hx
    generalize B[i] = y at hy
    have hFd := Fmf hF (Fm.drew _ w2)
    obtain ⟨ad, h1, _, h2⟩ := (hA.keep hF (fun _ _ e => e)).at1 (i := i) (x := iv x) (by rw [List.getElem?_map, hx]; rfl) .i64
    obtain ⟨ad', h3, _, h4⟩ := (hB.keep hF (fun _ _ e => e)).at1 (i := i) (x := iv y) (by rw [List.getElem?_map, hy]; rfl) .i64
    simp only [RS0, RS1, RS2, RS3, RS4, RS5, d1, h1, h2, h3, h4, bne_dec, true_and]
    cases hxy : decide (x = y) with
    | false =>
      rw [decide_eq_false_iff_not] at hxy
      rw [ne_at hx hy hxy]
      simp only [RS0, RS1, RS2, RS3, RS4, RS5, Bool.not_false]
      exact ⟨(by trivial), hFd⟩
    | true =>
      rw [decide_eq_true_eq] at hxy
      simp only [RS0, RS1, RS2, RS3, RS4, RS5, Bool.not_true, e1]
      exact ⟨⟨i + 1, rfl, by omega, take_step ht hx hy hxy, hFd⟩, by simp only [nth_0]; omega⟩
  · have hie : i = A.length := by omega
    subst hie
    have d1 : decide (((A.length : Nat) : Int) < (A.length : Int)) = false := by simp
    rw [eq_end hd ht]
    simp only [RS0, RS1, RS2, RS3, RS4, RS5, d1]
    exact ⟨(by trivial), hF⟩

set_option maxHeartbeats 16000000 in
theorem rrsame_spec {w : World} {ca cb : Array Value} {a b : Rc} (ha : RcAs w ca a) (hb : RcAs w cb b) : Cl Tryz.prog 15 [.agg ca, .agg cb] w fun v w' => v = .bool (decide (a = b)) ∧ Fm (fun _ => False) w w' := by
  obtain ⟨as_, am, ai, ap, at_, hca, _, has, ham, hai, hap, hat⟩ := ha.ex
  obtain ⟨bs_, bm, bi, bp, bt, hcb, _, hbs, hbm, hbi, hbp, hbt⟩ := hb.ex
  have hbulk := ha.bulk
  refine c15 ?_; unfold T15
  refine New_any ?_
  intro x1 w1 hx1 hs1 hw1 hf1
  refine New_any ?_
  intro x2 w2 hx2 hs2 hw2 hf2
  have hRa : RB w2 x1 a as_ am ai ap at_ := ⟨by rw [← hca]; exact hf2.heap hw1 (fun e => e)⟩
  have hRb : RB w2 x2 b bs_ bm bi bp bt := ⟨by rw [← hcb]; exact hw2⟩
  have hF2 := Fmf hf1 hf2
  simp only [RS0, RS1, RS2, RS3, RS4, RS5, Bool.not_true, hRa.c0, hRb.c0, bne_dec]
  cases g0 : decide (a.lsn = b.lsn) with
  | false =>
    rw [decide_eq_false_iff_not] at g0
    rw [rc_ne Rc.lsn g0]
    simp only [RS0, RS1, RS2, RS3, RS4, RS5, Bool.not_false]
    exact ⟨(by trivial), hF2⟩
  | true =>
  simp only [RS0, RS1, RS2, RS3, RS4, RS5, Bool.not_true, hRa.c1, hRb.c1, bne_dec]
  cases g1 : decide (a.prev = b.prev) with
  | false =>
    rw [decide_eq_false_iff_not] at g1
    rw [rc_ne Rc.prev g1]
    simp only [RS0, RS1, RS2, RS3, RS4, RS5, Bool.not_false]
    exact ⟨(by trivial), hF2⟩
  | true =>
  simp only [RS0, RS1, RS2, RS3, RS4, RS5, Bool.not_true, hRa.c2, hRb.c2, bne_dec]
  cases g2 : decide (a.next = b.next) with
  | false =>
    rw [decide_eq_false_iff_not] at g2
    rw [rc_ne Rc.next g2]
    simp only [RS0, RS1, RS2, RS3, RS4, RS5, Bool.not_false]
    exact ⟨(by trivial), hF2⟩
  | true =>
  simp only [RS0, RS1, RS2, RS3, RS4, RS5, Bool.not_true, hRa.c3, hRb.c3, bne_dec]
  cases g3 : decide (a.kind = b.kind) with
  | false =>
    rw [decide_eq_false_iff_not] at g3
    rw [rc_ne Rc.kind g3]
    simp only [RS0, RS1, RS2, RS3, RS4, RS5, Bool.not_false]
    exact ⟨(by trivial), hF2⟩
  | true =>
  simp only [RS0, RS1, RS2, RS3, RS4, RS5, Bool.not_true, hRa.c4, hRb.c4, bne_dec]
  cases g4 : decide (a.xid = b.xid) with
  | false =>
    rw [decide_eq_false_iff_not] at g4
    rw [rc_ne Rc.xid g4]
    simp only [RS0, RS1, RS2, RS3, RS4, RS5, Bool.not_false]
    exact ⟨(by trivial), hF2⟩
  | true =>
  simp only [RS0, RS1, RS2, RS3, RS4, RS5, Bool.not_true, hRa.c5, hRb.c5, bne_dec]
  cases g5 : decide (a.page = b.page) with
  | false =>
    rw [decide_eq_false_iff_not] at g5
    rw [rc_ne Rc.page g5]
    simp only [RS0, RS1, RS2, RS3, RS4, RS5, Bool.not_false]
    exact ⟨(by trivial), hF2⟩
  | true =>
  simp only [RS0, RS1, RS2, RS3, RS4, RS5, Bool.not_true, hRa.c6, hRb.c6, bne_dec]
  cases g6 : decide (a.slot = b.slot) with
  | false =>
    rw [decide_eq_false_iff_not] at g6
    rw [rc_ne Rc.slot g6]
    simp only [RS0, RS1, RS2, RS3, RS4, RS5, Bool.not_false]
    exact ⟨(by trivial), hF2⟩
  | true =>
  simp only [RS0, RS1, RS2, RS3, RS4, RS5, Bool.not_true, hRa.c7, hRb.c7, bne_dec]
  cases g7 : decide (a.old = b.old) with
  | false =>
    rw [decide_eq_false_iff_not] at g7
    rw [rc_ne Rc.old g7]
    simp only [RS0, RS1, RS2, RS3, RS4, RS5, Bool.not_false]
    exact ⟨(by trivial), hF2⟩
  | true =>
  simp only [RS0, RS1, RS2, RS3, RS4, RS5, Bool.not_true, hRa.c8, hRb.c8, bne_dec]
  cases g8 : decide (a.new = b.new) with
  | false =>
    rw [decide_eq_false_iff_not] at g8
    rw [rc_ne Rc.new g8]
    simp only [RS0, RS1, RS2, RS3, RS4, RS5, Bool.not_false]
    exact ⟨(by trivial), hF2⟩
  | true =>
  simp only [RS0, RS1, RS2, RS3, RS4, RS5, Bool.not_true, hRa.c9, hRb.c9, bne_dec]
  cases g9 : decide (a.redo = b.redo) with
  | false =>
    rw [decide_eq_false_iff_not] at g9
    rw [rc_ne Rc.redo g9]
    simp only [RS0, RS1, RS2, RS3, RS4, RS5, Bool.not_false]
    exact ⟨(by trivial), hF2⟩
  | true =>
  simp only [RS0, RS1, RS2, RS3, RS4, RS5, Bool.not_true, hRa.c10, hRb.c10, str_inj]
  cases g10 : decide (a.data = b.data) with
  | false =>
    rw [decide_eq_false_iff_not] at g10
    rw [rc_ne Rc.data g10]
    simp only [RS0, RS1, RS2, RS3, RS4, RS5, Bool.not_false]
    exact ⟨(by trivial), hF2⟩
  | true =>
  simp only [RS0, RS1, RS2, RS3, RS4, RS5, Bool.not_true, hRa.c11, hRb.c11]
  refine (rints_spec (has.keep hF2 (fun _ _ e => e)) (hbs.keep hF2 (fun _ _ e => e))).mono ?_
  rintro _ w3 ⟨rfl, hf3⟩
  have hF3 := Fmf hF2 hf3
  have hRa3 := hRa.keep hf3 (fun e => e)
  have hRb3 := hRb.keep hf3 (fun e => e)
  cases g11 : decide (a.slots = b.slots) with
  | false =>
    rw [decide_eq_false_iff_not] at g11
    rw [rc_ne Rc.slots g11]
    simp only [RS0, RS1, RS2, RS3, RS4, RS5, Bool.not_false]
    exact ⟨(by trivial), hF3⟩
  | true =>
  simp only [RS0, RS1, RS2, RS3, RS4, RS5, Bool.not_true, hRa3.c12, hRb3.c12]
  refine (rints_spec (ham.keep hF3 (fun _ _ e => e)) (hbm.keep hF3 (fun _ _ e => e))).mono ?_
  rintro _ w4 ⟨rfl, hf4⟩
  have hF4 := Fmf hF3 hf4
  have hRa4 := hRa3.keep hf4 (fun e => e)
  have hRb4 := hRb3.keep hf4 (fun e => e)
  cases g12 : decide (a.more = b.more) with
  | false =>
    rw [decide_eq_false_iff_not] at g12
    rw [rc_ne Rc.more g12]
    simp only [RS0, RS1, RS2, RS3, RS4, RS5, Bool.not_false]
    exact ⟨(by trivial), hF4⟩
  | true =>
  have hia := hai.keep hF4
  have hib := hbi.keep hF4
  have hpa := hap.keep hF4 (fun _ _ e => e)
  have hpb := hbp.keep hF4 (fun _ _ e => e)
  have hta := hat.keep hF4 (fun _ _ e => e)
  have htb := hbt.keep hF4 (fun _ _ e => e)
  have dl1 : decide ((a.imgs.length : Int) = (b.imgs.length : Int)) = decide (a.imgs.length = b.imgs.length) := by rw [decide_eq_decide]; omega
  have dl2 : decide ((a.pages.length : Int) = (b.pages.length : Int)) = decide (a.pages.length = b.pages.length) := by rw [decide_eq_decide]; omega
  have dl3 : decide ((a.txns.length : Int) = (b.txns.length : Int)) = decide (a.txns.length = b.txns.length) := by rw [decide_eq_decide]; omega
  simp only [RS0, RS1, RS2, RS3, RS4, RS5, Bool.not_true, hRa4.c13, hRb4.c13, hia.lenV, hib.lenV, bne_dec, dl1]
  cases hd1 : decide (a.imgs.length = b.imgs.length) with
  | false =>
    rw [decide_eq_false_iff_not] at hd1
    rw [rc_ne Rc.imgs (fun e => hd1 (congrArg List.length e))]
    simp only [RS0, RS1, RS2, RS3, RS4, RS5, Bool.not_false]
    exact ⟨(by trivial), hF4⟩
  | true =>
  simp only [RS0, RS1, RS2, RS3, RS4, RS5, Bool.not_true, hRa4.c14, hRb4.c14, hpa.lenV, hpb.lenV, bne_dec, dl2]
  cases hd2 : decide (a.pages.length = b.pages.length) with
  | false =>
    rw [decide_eq_false_iff_not] at hd2
    rw [rc_ne Rc.pages (fun e => hd2 (congrArg List.length e))]
    simp only [RS0, RS1, RS2, RS3, RS4, RS5, Bool.not_false]
    exact ⟨(by trivial), hF4⟩
  | true =>
  simp only [RS0, RS1, RS2, RS3, RS4, RS5, Bool.not_true, hRa4.c15, hRb4.c15, hta.lenV, htb.lenV, bne_dec, dl3]
  cases hd3 : decide (a.txns.length = b.txns.length) with
  | false =>
    rw [decide_eq_false_iff_not] at hd3
    rw [rc_ne Rc.txns (fun e => hd3 (congrArg List.length e))]
    simp only [RS0, RS1, RS2, RS3, RS4, RS5, Bool.not_false]
    exact ⟨(by trivial), hF4⟩
  | true =>
  rw [decide_eq_true_eq] at hd1 hd2 hd3
  simp only [RS0, RS1, RS2, RS3, RS4, RS5, Bool.not_true]
  clear dl1 dl2 dl3
  refine ⟨fun vl w5 => ∃ i : Nat, vl = [iv i] ∧ i ≤ a.imgs.length ∧ a.imgs.take i = b.imgs.take i ∧ Fm (fun _ => False) w4 w5, fun vl _ => (a.imgs.length - nth vl 0).toNat, ⟨0, rfl, by omega, by simp, Fm.refl _ _⟩, ?_⟩
  rintro _ w5 iv5 ⟨i, hvl, hile, htk, hf5⟩
  cases hvl
  have hRa5 := hRa4.keep hf5 (fun e => e)
  have hRb5 := hRb4.keep hf5 (fun e => e)
  have hia5 := hia.keep hf5
  have hib5 := hib.keep hf5
  by_cases hlt : i < a.imgs.length
  · have d1 : decide ((i : Int) < (a.imgs.length : Int)) = true := by rw [decide_eq_true_eq]; omega
    have e1 : IntKind.i64.wrap ((i : Int) + 1) = ((i + 1 : Nat) : Int) := by rw [wrap_id] <;> omega
    have hx : a.imgs[i]? = some a.imgs[i] := List.getElem?_eq_getElem hlt
    have hy : b.imgs[i]? = some b.imgs[i] := List.getElem?_eq_getElem (by omega)
    generalize a.imgs[i] = x at hx
    generalize b.imgs[i] = y at hy
    obtain ⟨ad, u, h1, h2, hu, hpu⟩ := hia5.ld hx
    obtain ⟨ad', u', h3, h4, hu', hpu'⟩ := hib5.ld hy
    have hc0 : w5.cell? ad = some (iv x.1) := by
      have := cellsV_cellS h2 (i := 0) (x := iv x.1) rfl
      rw [Go.Al.add_zero] at this; exact this
    have hc0' : w5.cell? ad' = some (iv y.1) := by
      have := cellsV_cellS h4 (i := 0) (x := iv y.1) rfl
      rw [Go.Al.add_zero] at this; exact this
    have hfd := Fm.drew (fun _ => False) w5
    have s1 := cellsV_keep (im_subS h2) hfd (fun e => e)
    have s2 := cellsV_keep (im_subS h4) hfd (fun e => e)
    simp only [RS0, RS1, RS2, RS3, RS4, RS5, hRa5.c13, hia5.lenV, d1, h1, hc0, hRb5.c13, h3, hc0', true_and, bne_dec]
    cases h0 : decide (x.1 = y.1) with
    | false =>
      rw [decide_eq_false_iff_not] at h0
      rw [rc_ne Rc.imgs (fun e => h0 (by rw [e, hy] at hx; cases hx; rfl))]
      simp only [RS0, RS1, RS2, RS3, RS4, RS5, Bool.not_false]
      exact ⟨(by trivial), trivial, trivial, trivial, trivial, Fmf hF4 (Fmf hf5 hfd)⟩
    | true =>
    rw [decide_eq_true_eq] at h0
    simp only [RS0, RS1, RS2, RS3, RS4, RS5, Bool.not_true, hRa5.c13, h1, s1, hRb5.c13, h3, s2, true_and]
    refine (rsame_spec ((hpu.keep hfd)) ((hpu'.keep hfd))).mono ?_
    rintro _ w6 ⟨rfl, hf6⟩
    have hF6 := Fmf hf5 (Fmf hfd hf6)
    cases h00 : decide (x.2 = y.2) with
    | false =>
      rw [decide_eq_false_iff_not] at h00
      rw [rc_ne Rc.imgs (fun e => h00 (by rw [e, hy] at hx; cases hx; rfl))]
      simp only [RS0, RS1, RS2, RS3, RS4, RS5, Bool.not_false]
      exact ⟨(by trivial), Fmf hF4 hF6⟩
    | true =>
    rw [decide_eq_true_eq] at h00
    simp only [RS0, RS1, RS2, RS3, RS4, RS5, Bool.not_true, e1]
    exact ⟨⟨i + 1, rfl, by omega, take_step htk hx hy (Prod.ext h0 h00), hF6⟩, by simp only [nth_0]; omega⟩
  have hie : i = a.imgs.length := by omega
  subst hie
  have d1 : decide (((a.imgs.length : Nat) : Int) < (a.imgs.length : Int)) = false := by simp
  have g13 := eq_end hd1 htk
  simp only [RS0, RS1, RS2, RS3, RS4, RS5, hRa5.c13, hia5.lenV, d1]
  clear d1 hlt htk
  have hpagesa := hpa.keep hf5 (fun _ _ e => e)
  have hpagesb := hpb.keep hf5 (fun _ _ e => e)
  refine ⟨fun vl w6 => ∃ i : Nat, vl = [iv i] ∧ i ≤ a.pages.length ∧ a.pages.take i = b.pages.take i ∧ Fm (fun _ => False) w5 w6, fun vl _ => (a.pages.length - nth vl 0).toNat, ⟨0, rfl, by omega, by simp, Fm.refl _ _⟩, ?_⟩
  rintro _ w6 iv6 ⟨i, hvl, hile, htk, hf6⟩
  cases hvl
  have hRa6 := hRa5.keep hf6 (fun e => e)
  have hRb6 := hRb5.keep hf6 (fun e => e)
  have hA := hpagesa.keep hf6 (fun _ _ e => e)
  have hB := hpagesb.keep hf6 (fun _ _ e => e)
  by_cases hlt : i < a.pages.length
  · have d1 : decide ((i : Int) < (a.pages.length : Int)) = true := by rw [decide_eq_true_eq]; omega
    have e1 : IntKind.i64.wrap ((i : Int) + 1) = ((i + 1 : Nat) : Int) := by rw [wrap_id] <;> omega
    have hx : a.pages[i]? = some a.pages[i] := List.getElem?_eq_getElem hlt
    have hy : b.pages[i]? = some b.pages[i] := List.getElem?_eq_getElem (by omega)
    generalize a.pages[i] = x at hx
    generalize b.pages[i] = y at hy
    obtain ⟨ad, h1, h2, _⟩ := cells_ld pc2_len (by omega) hA hx
    obtain ⟨ad', h3, h4, _⟩ := cells_ld pc2_len (by omega) hB hy
    have hfd := Fm.drew (fun _ => False) w6
    have h2' := cellsV_keep h2 hfd (fun e => e)
    have h4' := cellsV_keep h4 hfd (fun e => e)
    simp only [RS0, RS1, RS2, RS3, RS4, RS5, hRa6.c14, hA.lenV, d1, h1, h2', hRb6.c14, h3, h4', true_and]
    refine RunS_ok (neq96 _ _ x y _) ?_
    simp only [RS0, RS1, RS2, RS3, RS4, RS5, true_and]
    cases hxy : decide (x = y) with
    | false =>
      rw [decide_eq_false_iff_not] at hxy
      rw [rc_ne Rc.pages (fun e => hxy (by rw [e, hy] at hx; exact (Option.some.inj hx).symm))]
      simp only [RS0, RS1, RS2, RS3, RS4, RS5, Bool.not_false]
      exact ⟨(by trivial), Fmf hF4 (Fmf hf5 (Fmf hf6 hfd))⟩
    | true =>
      rw [decide_eq_true_eq] at hxy
      simp only [RS0, RS1, RS2, RS3, RS4, RS5, Bool.not_true, e1]
      exact ⟨⟨i + 1, rfl, by omega, take_step htk hx hy hxy, Fmf hf6 hfd⟩, by simp only [nth_0]; omega⟩
  have hie : i = a.pages.length := by omega
  subst hie
  have d1 : decide (((a.pages.length : Nat) : Int) < (a.pages.length : Int)) = false := by simp
  have g14 := eq_end hd2 htk
  simp only [RS0, RS1, RS2, RS3, RS4, RS5, hRa6.c14, hA.lenV, d1]
  clear d1 hlt htk
  have htxnsa := hta.keep (Fmf hf5 hf6) (fun _ _ e => e)
  have htxnsb := htb.keep (Fmf hf5 hf6) (fun _ _ e => e)
  refine ⟨fun vl w7 => ∃ i : Nat, vl = [iv i] ∧ i ≤ a.txns.length ∧ a.txns.take i = b.txns.take i ∧ Fm (fun _ => False) w6 w7, fun vl _ => (a.txns.length - nth vl 0).toNat, ⟨0, rfl, by omega, by simp, Fm.refl _ _⟩, ?_⟩
  rintro _ w7 iv7 ⟨i, hvl, hile, htk, hf7⟩
  cases hvl
  have hRa7 := hRa6.keep hf7 (fun e => e)
  have hRb7 := hRb6.keep hf7 (fun e => e)
  have hA := htxnsa.keep hf7 (fun _ _ e => e)
  have hB := htxnsb.keep hf7 (fun _ _ e => e)
  by_cases hlt : i < a.txns.length
  · have d1 : decide ((i : Int) < (a.txns.length : Int)) = true := by rw [decide_eq_true_eq]; omega
    have e1 : IntKind.i64.wrap ((i : Int) + 1) = ((i + 1 : Nat) : Int) := by rw [wrap_id] <;> omega
    have hx : a.txns[i]? = some a.txns[i] := List.getElem?_eq_getElem hlt
    have hy : b.txns[i]? = some b.txns[i] := List.getElem?_eq_getElem (by omega)
    generalize a.txns[i] = x at hx
    generalize b.txns[i] = y at hy
    obtain ⟨ad, h1, h2, _⟩ := cells_ld pc2_len (by omega) hA hx
    obtain ⟨ad', h3, h4, _⟩ := cells_ld pc2_len (by omega) hB hy
    have hfd := Fm.drew (fun _ => False) w7
    have h2' := cellsV_keep h2 hfd (fun e => e)
    have h4' := cellsV_keep h4 hfd (fun e => e)
    simp only [RS0, RS1, RS2, RS3, RS4, RS5, hRa7.c15, hA.lenV, d1, h1, h2', hRb7.c15, h3, h4', true_and]
    refine RunS_ok (neq99 _ _ x y _) ?_
    simp only [RS0, RS1, RS2, RS3, RS4, RS5, true_and]
    cases hxy : decide (x = y) with
    | false =>
      rw [decide_eq_false_iff_not] at hxy
      rw [rc_ne Rc.txns (fun e => hxy (by rw [e, hy] at hx; exact (Option.some.inj hx).symm))]
      simp only [RS0, RS1, RS2, RS3, RS4, RS5, Bool.not_false]
      exact ⟨(by trivial), Fmf hF4 (Fmf (Fmf hf5 hf6) (Fmf hf7 hfd))⟩
    | true =>
      rw [decide_eq_true_eq] at hxy
      simp only [RS0, RS1, RS2, RS3, RS4, RS5, Bool.not_true, e1]
      exact ⟨⟨i + 1, rfl, by omega, take_step htk hx hy hxy, Fmf hf7 hfd⟩, by simp only [nth_0]; omega⟩
  have hie : i = a.txns.length := by omega
  subst hie
  have d1 : decide (((a.txns.length : Nat) : Int) < (a.txns.length : Int)) = false := by simp
  have g15 := eq_end hd3 htk
  simp only [RS0, RS1, RS2, RS3, RS4, RS5, hRa7.c15, hA.lenV, d1]
  refine ⟨?_, Fmf hF4 (Fmf hf5 (Fmf hf6 hf7))⟩
  congr 1
  symm
  rw [decide_eq_true_eq] at g0 g1 g2 g3 g4 g5 g6 g7 g8 g9 g10 g11 g12 g13 g14 g15 ⊢
  cases a; cases b
  simp only at g0 g1 g2 g3 g4 g5 g6 g7 g8 g9 g10 g11 g12 g13 g14 g15
  subst g0 g1 g2 g3 g4 g5 g6 g7 g8 g9 g10 g11 g12 g13 g14 g15
  rfl

end Go.Proofs.YthbngnlmgplijaaGreatDoor

namespace Go.Proofs.YthbngnlmgplijaaGreatDoor
open Go.Al Go.Proofs
set_option linter.unusedVariables false
set_option maxRecDepth 100000
def vI : Vw Tryz.prog 3 Int := vInt .i64 Tryz.underlying3 (by kernel_rfl)
def vS : Vw Tryz.prog 9 Bs := vStr Tryz.underlying9 (by kernel_rfl)
end Go.Proofs.YthbngnlmgplijaaGreatDoor

namespace Go.Proofs.YthbngnlmgplijaaGreatDoor
open Go.Al Go.Proofs
set_option linter.unusedVariables false
set_option linter.unusedSimpArgs false
set_option linter.unusedSectionVars false
set_option maxRecDepth 100000

theorem own_set {w : World} {base : Nat} {e : TypeId} {v : Value} {n : Nat} {xs : List Value} (h : w.ownsRow base e 1 v n xs) {i : Nat} (hi : i < n) : ∃ ad, ixV 1 v (iv i) = some (.pointer (some ad)) ∧ v.ownBlock = some ad.block ∧ ∀ {u : Value} {k : KV}, u.oneCell' = true → (∀ w', w'.ownsRow base e 1 v n (xs.set i u) → w'.heap.size = w.heap.size → Fm (fun y => v.ownBlock = some y) w w' → k undef w') → St 1 w (.pointer (some ad)) u k := by
  rcases h.2 with ⟨rfl, hn⟩ | ⟨g, cap, cur, rfl, hbg, hgg, hnc, hcm, hcs, htake⟩
  · omega
  · rw [Nat.mul_one] at hcs htake
    refine ⟨⟨g, i, none⟩, by rw [ixV_at hi, add_none]; simp, rfl, ?_⟩
    intro u k hu hk
    refine St_blk hgg (by omega) hu ?_
    intro w' h1 h2 h3
    refine hk w' ⟨by rw [List.length_set]; exact h.1, .inr ⟨g, cap, _, rfl, hbg, h1, hnc, hcm, by simp [hcs], ?_⟩⟩ h2 (h3.mono (fun y _ e => by rw [e]; rfl))
    rw [Nat.mul_one, ← htake]
    simp [List.take_set]
theorem RdOk.rows {w : World} {b : Nat} {cs : Array Value} {o : Option Rc} (h : RdOk w b cs o) : ∃ vs vm vi vp vt, cs = rcs (o.getD rc0) vs vm vi vp vt ∧ Rows w b (o.getD rc0) vs vm vi vp vt ∧ Bnd (o.getD rc0) := by
  cases o with
  | none => exact ⟨_, _, _, _, _, h, rows0 w b, bnd0⟩
  | some x => exact h

set_option maxHeartbeats 8000000 in
theorem recdec_law {w : World} (d : Bs) (hd : d.length ≤ 140737488355328) : Cl Tryz.prog 3 [stv d] w fun v w' => v = .bool true ∧ Fm (fun _ => False) w w' := by
  refine c3 ?_; unfold T3
  refine (rdec_spec w d (by omega)).mono ?_
  rintro _ w1 ⟨ca, rfl, hA, hf1⟩
  obtain ⟨as_, am, ai, ap, at_, rfl, hRa, hBa⟩ := hA.rows
  have hz1 := hf1.size
  simp only [RS0, RS1, RS2, RS3, RS4, RS5]
  refine New_any ?_
  intro xa w2 hxa hs2 hw2 hf2
  refine St_all hw2 rfl rfl hRa.one ?_
  intro w3 hw3 hs3 hf3
  have hf13 : Fm (fun _ => False) w1 w3 := Fm.own hf2 hf3 (by rintro y rfl; omega)
  have hRa3 := hRa.keep hf13 (fun _ e => e.elim)
  have hal := own_lt hRa.hs
  refine (rdecR_spec w3 d (by omega)).mono ?_
  rintro _ w4 ⟨cb, rfl, hB, hf4⟩
  obtain ⟨bs_, bm, bi, bp, bt, rfl, hRb, hBb⟩ := hB.rows
  have hdec := fun w => rdec_spec w d (by omega)
  have hC0 : ∀ {w b cs}, RdOk w b cs (rDec d).1 → ∃ vs vm vi vp vt, cs = rcs ((rDec d).1.getD rc0) vs vm vi vp vt ∧ Rows w b ((rDec d).1.getD rc0) vs vm vi vp vt ∧ Bnd ((rDec d).1.getD rc0) := fun h => h.rows
  generalize (rDec d).1.getD rc0 = r at hRa hBa hRa3 hw3 hal hRb hBb hC0 ⊢
  have hz3 := hf13.size
  have hz4 := hf4.size
  have hwa4 := hf4.heap hw3 (fun e => e)
  have hRa4 := hRa3.keep hf4 (fun _ e => e.elim)
  simp only [RS0, RS1, RS2, RS3, RS4, RS5]
  refine New_any ?_
  intro xb w5 hxb hs5 hw5 hf5
  refine St_all hw5 rfl rfl hRb.one ?_
  intro w6 hw6 hs6 hf6
  have hf46 : Fm (fun _ => False) w4 w6 := Fm.own hf5 hf6 (by rintro y rfl; omega)
  have hz6 := hf46.size
  have hwa6 := hf46.heap hwa4 (fun e => e)
  have hRa6 := hRa4.keep hf46 (fun _ e => e.elim)
  have hRb6 := hRb.keep hf46 (fun _ e => e.elim)
  have q1 : RB w6 xa r as_ am ai ap at_ := ⟨hwa6⟩
  have q2 : RB w6 xb r bs_ bm bi bp bt := ⟨hw6⟩
  simp only [RS0, RS1, RS2, RS3, RS4, RS5, bne_self_eq_false, q1.all, q2.all]
  refine (rrsame_spec (hRa6.asR hBa) (hRb6.asR hBb)).mono ?_
  rintro _ w7 ⟨rfl, hf7⟩
  have hz7 := hf7.size
  have hF7 : Fm (fun _ => False) w w7 := Fmf hf1 (Fmf hf13 (Fmf hf4 (Fmf hf46 hf7)))
  have hRa7 := hRa6.keep hf7 (fun _ e => e.elim)
  have hRb7 := hRb6.keep hf7 (fun _ e => e.elim)
  have hwa7 := hf7.heap hwa6 (fun e => e)
  have hwb7 := hf7.heap hw6 (fun e => e)
  simp only [RS0, RS1, RS2, RS3, RS4, RS5, decide_true, Bool.not_true]
  refine ⟨fun vl w' => ∃ (i : Nat) (xs : List Value), vl = [iv i] ∧ i ≤ r.slots.length ∧ w'.ownsRow w.heap.size 3 1 as_ r.slots.length xs ∧ RB w' xa r as_ am ai ap at_ ∧ RB w' xb r bs_ bm bi bp bt ∧ Rows w' w3.heap.size r bs_ bm bi bp bt ∧ w7.heap.size ≤ w'.heap.size ∧ Fm (fun _ => False) w w', fun vl _ => (r.slots.length - nth vl 0).toNat, ⟨0, _, rfl, by omega, hRa7.hs, ⟨hwa7⟩, ⟨hwb7⟩, hRb7, Nat.le_refl _, hF7⟩, ?_⟩
  rintro _ w8 ivv ⟨i, xs, hvl, hi, ho8, hxa8, hxb8, hRb8, hz8, hF8⟩
  cases hvl
  have hc8 := CellsAt.of_own ho8
  have hsl := hBa.slots
  simp only [RS0, RS1, RS2, RS3, RS4, RS5, hxa8.c11, hc8.lenV]
  by_cases hl : i < r.slots.length
  · have d1 : decide ((i : Int) < (r.slots.length : Int)) = true := by rw [decide_eq_true_eq]; omega
    have e1 : IntKind.i64.wrap ((i : Int) + 1) = ((i + 1 : Nat) : Int) := by rw [wrap_id] <;> omega
    obtain ⟨ad, hix, hob, hst⟩ := own_set ho8 hl
    have hg := hal _ hob
    simp only [RS0, RS1, RS2, RS3, RS4, RS5, d1, hxa8.c11, hix]
    refine hst rfl ?_
    intro w9 ho9 hs9 hf9
    have hk : ∀ y, as_.ownBlock = some y → y < w1.heap.size ∧ w.heap.size ≤ y := fun y hy => ⟨(hal y hy).2, (hal y hy).1⟩
    simp only [RS0, RS1, RS2, RS3, RS4, RS5, e1]
    exact ⟨⟨i + 1, _, rfl, by omega, ho9, hxa8.keep hf9 (fun e => by have := (hk _ e).1; omega), hxb8.keep hf9 (fun e => by have := (hk _ e).1; omega), hRb8.keep hf9 (fun y e => by have := (hk _ e).1; omega), by omega, Fm.own hF8 hf9 (fun y e => (hk _ e).2)⟩, by simp only [nth_0]; omega⟩
  · have hie : i = r.slots.length := by omega
    subst hie
    have d1 : decide (((r.slots.length : Nat) : Int) < (r.slots.length : Int)) = false := by simp
    simp only [RS0, RS1, RS2, RS3, RS4, RS5, d1]
    refine (rdec_spec w8 d (by omega)).mono ?_
    rintro _ w9 ⟨cc, rfl, hC, hf9⟩
    obtain ⟨cs_, cm, ci, cp, ct, rfl, hRc, hBc⟩ := hC0 hC
    have hRb9 := hRb8.keep hf9 (fun _ e => e.elim)
    have hxb9 := hxb8.keep hf9 (fun e => e)
    have hz9 := hf9.size
    simp only [RS0, RS1, RS2, RS3, RS4, RS5]
    refine New_any ?_
    intro xc wA hxc hsA hwA hfA
    refine St_all hwA rfl rfl hRc.one ?_
    intro wB hwB hsB hfB
    have hf9B : Fm (fun _ => False) w9 wB := Fm.own hfA hfB (by rintro y rfl; omega)
    have hRbB := hRb9.keep hf9B (fun _ e => e.elim)
    have hRcB := hRc.keep hf9B (fun _ e => e.elim)
    have hxbB := hxb9.keep hf9B (fun e => e)
    have q3 : RB wB xc r cs_ cm ci cp ct := ⟨hwB⟩
    simp only [RS0, RS1, RS2, RS3, RS4, RS5, q3.all, hxbB.all]
    refine (rrsame_spec (hRcB.asR hBc) (hRbB.asR hBb)).mono ?_
    rintro _ wC ⟨rfl, hfC⟩
    simp only [RS0, RS1, RS2, RS3, RS4, RS5, decide_true]
    refine (recawake_spec wC).mono ?_
    rintro _ wD ⟨rfl, hfD⟩
    simp only [RS0, RS1, RS2, RS3, RS4, RS5]
    exact ⟨(by trivial), Fmf hF8 (Fmf hf9 (Fmf hf9B (Fmf hfC hfD)))⟩

end Go.Proofs.YthbngnlmgplijaaGreatDoor

namespace Go.Al
set_option linter.unusedVariables false
set_option linter.unusedSimpArgs false
set_option linter.unusedSectionVars false
open Go.ChangeShapes Go.WideShapes Go.ChangeAt Go.RowKit

theorem law_laid {H : Type} {enc : TypeId × Value → H} {C : Checked} {os : Os} {f : FuncId} {fn : Func} {s : ChangeSpec} {conds : List PathCond} {tb : TypeId} {X : World → Array Value → Prop} (hX : ∀ (w w' : World) (args : Array Value), w.heap = w'.heap → X w args → X w' args)
    (own : ownKnob C.prog.godebug = none) (started : os.Started) (noInit : C.prog.inits.idxOf? f = none) (hfn : C.prog.funcs[f]? = some fn)
    (hlaid : laidOutB C.prog = true)
    (witness : ∃ (w : World) (tape : Tape) (i : Input), w.os = os ∧ (w.forCall tape i).Shaped C.prog ∧ i.vars = [] ∧ Input.okWide C.prog (w.forCall tape i) .any w.heap.size f i ∧
      ((s.pre enc C.prog fn conds false (w.forCall tape i).memory i.args ∧ X (w.forCall tape i).memory i.args) ∧ sizedMet enc C.prog fn (OpenSpec.ofChange s) false (w.forCall tape i).memory i.args) ∧ ({} : Assume).holds C.prog (lone (Frame.enter C.prog f i.args .normal) [] (w.forCall tape i)))
    (hres : fn.resultTypes = #[tb]) (hbool : C.prog.underlying tb = some .bool) (hvars : s.vars = [])
    (hrow : ∀ t ∈ fn.params.toList, C.prog.readableRec t = true ∧ t < C.prog.types.size)
    (hs : ∀ ds : List (DataW H), ds.length = fn.params.toList.length → s.fn H ds = { results := [.lit (.bool true)], args := ds, vars := [] })
    (law : ∀ (W : World) (args : List Value) (ds : List (DataW H)) (p : List MemPlace), LawIn enc C.prog fn.params.toList W args ds p → Cl C.prog f args W fun v w' => v = .bool true ∧ Fm (fun _ => False) W w') :
    ReturnsInHanded {} C os f .any (fun w args => (s.pre enc C.prog fn conds false w args ∧ X w args) ∧ sizedMet enc C.prog fn (OpenSpec.ofChange s) false w args) (s.post enc C.prog fn false true false false) := by
  refine returnsInHanded_of_change_and (X := X) hX own started noInit hfn witness ?_
  intro W base args ds gs before hval hW hcnd hsz _ _
  have hW' := hW
  obtain ⟨p, q, hA, hV, rfl, hfz, hnd⟩ := hW
  rw [hvars] at hV
  obtain ⟨rfl, rfl⟩ := trodVars_none hV
  have hty : s.plain.varTypes C.prog = [] := by simp [DataSpec.varTypes, ChangeSpec.plain, hvars]
  simp only [hty, List.append_nil] at hsz
  have hlt : ∀ x ∈ p, x.block < W.heap.size := fun x hx => hW'.lt x (by simp [hx])
  have hlen := (trodAll_length hA).2
  refine (cl_true (law W args.toList ds p ⟨hA, ⟨base, fun j t v hj hv => hval j t v (by simpa using hj) (by simpa using hv)⟩, hsz, hlt⟩)).mono fun e W' ⟨he, hb⟩ => ?_
  subst he
  refine ⟨_, rfl, ds, [], p ++ [], [], p, [], hW', ?_, ?_, ?_, hb.frame _, fun h => by cases h⟩
  · rw [List.append_nil, hs ds hlen, hres]
    exact trodAll_cons_mk (shut_bool hbool _) trodAll_mk0
  · rw [List.append_nil, hs ds hlen]
    exact trodAll_below hlaid hb hrow hA hlt
  · rw [List.append_nil, hs ds hlen, hvars]; trivial

end Go.Al
