/- Which page bytes are: the document's. -/
import Derived.Test.YtodnakepbdhfkaaDoorPgDec
namespace Go.Proofs.YtodnakepbdhfkaaDoor
open Go.Al Go.Proofs
set_option linter.unusedVariables false
set_option linter.unusedSimpArgs false
set_option linter.unusedSectionVars false
set_option maxRecDepth 100000

theorem sum_iff {d : Bs} (h : d.length = 512) : decide (((ofN (d.take 4) : Nat) : Int) = ((crc (d.drop 4) : Nat) : Int)) = decide (beN 4 (crc (d.drop 4)) = d.take 4) := by
  have hl : (d.take 4).length = 4 := by rw [List.length_take]; omega
  have hc := crc_lt (d.drop 4)
  rw [ofN_short (by omega), decide_eq_decide]
  constructor
  · intro e
    have e : ofB (d.take 4) = crc (d.drop 4) := by omega
    rw [← e]; exact beN_ofB 4 _ hl
  · intro e
    rw [← e, ofB_beN, Nat.mod_eq_of_lt (by omega)]
/-- Read, it must be what is written again. -/
theorem again_iff {d : Bs} (h : d.length = 512) (h2 : beN 4 (crc (d.drop 4)) = d.take 4) {l : List Bs} {t : Bs} (h3 : pItems (dMany d) (dRest d) = some (l, t)) :
    pDec d = bif !decide (pErr (headP d l) = 0) || !decide ((pEnc (headP d l)).1 = d) then (pg0, 31) else (headP d l, 0) := by
  have hs := pDec_some h h2 h3
  cases hb : badD d t with
  | false =>
    rw [hb, cond_false] at hs
    have := enc_dec (d := d) (by rw [hs])
    rw [hs] at this
    simp only at this
    rw [hs, this.1, this.2.1]
    simp
  | true =>
    rw [hb, cond_true] at hs
    rw [hs]
    by_cases h4 : pErr (headP d l) = 0
    · by_cases h5 : (pEnc (headP d l)).1 = d
      · have h6 := dec_enc h4 (by unfold headP; simp only; omega)
        rw [h5, hs] at h6
        have := congrArg Prod.snd h6
        simp at this
      · rw [show decide ((pEnc (headP d l)).1 = d) = false by simpa using h5]; simp
    · rw [show decide (pErr (headP d l) = 0) = false by simpa using h4]; simp

set_option maxHeartbeats 8000000 in
theorem rdecode_spec (w : World) (d : Bs) (hd : d.length ≤ 9223372036854775806) : Cl Tryd.prog 28 [stv d] w fun r w' => ∃ cs, r = .tuple #[.agg cs, iv (pDec d).2] ∧ PgOw w' w.heap.size cs (pDec d).1 ∧ Fm (fun _ => False) w w' := by
  refine c28 ?_; unfold T28
  refine New_any ?_
  intro x2 w1 hx2 hs1 hw1 hf1
  have ret : ∀ (e : Int) (f : Fr), f 2 = pv x2 → f 3 = iv e → pDec d = (pg0, e) → 
      ((∀ w'' : World, w''.heap[x2]? = some (.cells (pcs pg0 (.slice none 0 0)) 24) → Fm (fun _ => False) w w'' → RetO (resL Tryd.prog f w'' [.cell 2 24, .tmp 3]) w'' (fun r w' => ∃ cs, r = .tuple #[.agg cs, iv (pDec d).2] ∧ PgOw w' w.heap.size cs (pDec d).1 ∧ Fm (fun _ => False) w w'))) := by
    intro e f h4 h5 h6 w'' h7 h8
    refine retPg (u := iv e) h7 rfl h4 h5 _ ?_
    rw [h6]
    exact ⟨_, rfl, PgOw.zero _ _, h8⟩
  have zone : ∀ u ∈ (pcs pg0 (.slice none 0 0)).toList, u.oneCell' = true := by intro u hu; simp [pcs] at hu; rcases hu with rfl | rfl | rfl | rfl | rfl | rfl <;> rfl
  have d0 : decide ((d.length : Int) = 512) = decide (d.length = 512) := by rw [decide_eq_decide]; omega
  simp only [RS0, RS1, RS2, RS3, RS4, RS5, str_size, bne_dec, d0]
  cases h0 : decide (d.length = 512) with
  | false =>
    have hne : d.length ≠ 512 := by simpa using h0
    simp only [RS0, RS1, RS2, RS3, RS4, RS5]
    refine RunS_ok (bld24z _) ?_
    refine St_all hw1 rfl rfl zone ?_
    intro w2 hw2 hs2 hf2
    exact ret 31 _ rfl rfl (pDec_len hne) w2 hw2 (Fm.own hf1 hf2 (by rintro y rfl; omega))
  | true =>
  have h512 : d.length = 512 := by simpa using h0
  have s1 : slS (stv d) (some (Value.int .i64 4)) none = some (stv (d.drop 4)) := slS_lo (i := 4) (by omega) .i64
  have s2 : slS (stv d) none (some (Value.int .i64 4)) = some (stv (d.take 4)) := slS_hi (i := 4) (by omega) .i64
  have hf2 := Fm.drew (fun _ => False) w1
  have hx2' : w1.drew.heap[x2]? = some (.cells #[iv 0, iv 0, iv 0, iv 0, stv [], .slice none 0 0] 24) := hw1
  have hF2 := Fmf hf1 hf2
  simp only [RS0, RS1, RS2, RS3, RS4, RS5, s1, s2]
  generalize w1.drew = w2 at hf2 hx2' hF2
  refine (rof_spec w2 (d.take 4) (by rw [List.length_take]; omega)).mono ?_
  rintro _ w2 ⟨rfl, rfl⟩
  refine (rsum_spec w2 (d.drop 4) (by rw [List.length_drop]; omega)).mono ?_
  rintro _ w3 ⟨rfl, rfl⟩
  obtain ⟨q1, q2⟩ := crc_in (d.drop 4)
  simp only [RS0, RS1, RS2, RS3, RS4, RS5, cvI_int, q2, bne_dec, sum_iff h512]
  cases hsum : decide (beN 4 (crc (d.drop 4)) = d.take 4) with
  | false =>
    have hne : beN 4 (crc (d.drop 4)) ≠ d.take 4 := by simpa using hsum
    simp only [RS0, RS1, RS2, RS3, RS4, RS5]
    refine RunS_ok (bld24z _) ?_
    refine St_all hx2' rfl rfl zone ?_
    intro w4 hw4 hs4 hf4
    exact ret 30 _ rfl rfl (pDec_sum h512 hne) w4 hw4 (Fm.own hF2 hf4 (by rintro y rfl; omega))
  | true =>
  have hse : beN 4 (crc (d.drop 4)) = d.take 4 := by simpa using hsum
  simp only [RS0, RS1, RS2, RS3, RS4, RS5]
  have hx2s : x2 = w.heap.size := hx2
  refine Jn_at (fun vs w4 => ∃ g4, vs = [pv g4] ∧ PB w4 g4 ⟨(dLsn d % 2 ^ 63 : Nat), dKind d, dLevel d, dRight d, [], []⟩ (.slice none 0 0) ∧ g4 ≠ x2 ∧ w.heap.size ≤ g4 ∧ w4.heap[x2]? = some (.cells #[iv 0, iv 0, iv 0, iv 0, stv [], .slice none 0 0] 24) ∧ Fm (fun _ => False) w w4) ?_ ?_
  · rintro _ w4 ⟨g4, rfl, hP4, hne4, hge4, hx4, hF4⟩ _
    refine ⟨_, rfl, ?_⟩
    have i19 : ixS (stv d) (Value.int .i64 19) = some (.int .u8 ((dHl d : Nat))) := ixS_getD (k := 19) (by omega)
    have i18 : ixS (stv d) (Value.int .i64 18) = some (.int .u8 ((dMany d : Nat))) := ixS_getD (k := 18) (by omega)
    have c19 : IntKind.i64.wrap (dHl d : Nat) = ((dHl d : Nat) : Int) := u8_i64 _
    have c18 : IntKind.i64.wrap (dMany d : Nat) = ((dMany d : Nat) : Int) := u8_i64 _
    have hhl : dHl d < 256 := UInt8.toNat_lt _
    have hmy : dMany d < 256 := UInt8.toNat_lt _
    have e0 : IntKind.i64.wrap (20 + (dHl d : Int)) = ((20 + dHl d : Nat) : Int) := by rw [wrap_id] <;> omega
    have s3 : slS (stv d) (some (Value.int .i64 20)) (some (Value.int .i64 ((20 + dHl d : Nat) : Int))) = some (stv (dHigh d)) := by
      have := slS_lh (l := d) (i := 20) (j := 20 + dHl d) (by omega) (by omega) .i64 .i64
      rw [show 20 + dHl d - 20 = dHl d by omega] at this; exact this
    have hg4l := hP4.lt
    have hz4 := hF4.size
    have hx2l := lt_of_heap hx4
    simp only [RS0, RS1, RS2, RS3, RS4, RS5, i18, cvI_int, c18, i19, c19, e0, s3]
    refine St_blk hP4 (by show 4 < 6; decide) rfl ?_
    intro w8 hw8 hs8 hf8
    replace hw8 : PB w8 g4 (headP d []) (.slice none 0 0) := hw8
    have hx8 := hf8.heap hx4 (fun e => hne4 e.symm)
    have hF8 : Fm (fun _ => False) w w8 := Fm.own hF4 hf8 (by rintro y rfl; omega)
    have hr0 : (dRest d).length = 492 - dHl d := by unfold dRest; rw [List.length_drop, List.length_drop]; omega
    have hdr0 : d.drop (20 + dHl d) = dRest d := by unfold dRest; rw [List.drop_drop]
    refine ⟨fun vs w9 => ∃ (i a : Nat) (l : List Bs) (s : Bs) (v : Value), vs = [iv a, iv i] ∧ i ≤ dMany d ∧ Mid d i l s ∧ a + s.length = 512 ∧ d.drop a = s ∧ PB w9 g4 (headP d l) v ∧ w9.ownsRow w.heap.size 9 1 v l.length (l.map stv) ∧ w9.heap[x2]? = some (.cells #[iv 0, iv 0, iv 0, iv 0, stv [], .slice none 0 0] 24) ∧ Fm (fun _ => False) w w9, fun vs _ => (dMany d - nth vs 1).toNat,
      ⟨0, 20 + dHl d, [], dRest d, _, rfl, by omega, Mid.zero h512, by omega, hdr0, hw8, World.ownsRow_nil _ _ _ _, hx8, hF8⟩, ?_⟩
    rintro _ w9 av ivv ⟨i, a, l, s, v, hvs, hi, hM, ha, hda, hP9, hO9, hx9, hF9⟩
    cases hvs
    have hll := hM.1
    have hg9 := hP9.lt
    have hx29 := lt_of_heap hx9
    have hz9 := hF9.size
    by_cases hlt : i < dMany d
    · have e1 : decide ((i : Int) < (dMany d : Int)) = true := by rw [decide_eq_true_eq]; omega
      have e2 : IntKind.i64.wrap ((i : Int) + 1) = ((i + 1 : Nat) : Int) := by rw [wrap_id] <;> omega
      have a2 : IntKind.i64.wrap ((a : Int) + 2) = ((a + 2 : Nat) : Int) := by rw [wrap_id] <;> omega
      by_cases h2 : 2 ≤ s.length
      · have e3 : decide ((512 : Int) < ((a + 2 : Nat) : Int)) = false := by rw [decide_eq_false_iff_not]; omega
        have htl : (s.take 2).length = 2 := by rw [List.length_take]; omega
        have s4 : slS (stv d) (some (Value.int .i64 (a : Int))) (some (Value.int .i64 ((a + 2 : Nat) : Int))) = some (stv (s.take 2)) := by
          have := slS_lh (l := d) (i := a) (j := a + 2) (by omega) (by omega) .i64 .i64
          rw [show a + 2 - a = 2 by omega, hda] at this; exact this
        simp only [RS0, RS1, RS2, RS3, RS4, RS5, e1, a2, e3, s4]
        refine (rof_spec w9 (s.take 2) (by omega)).mono ?_
        rintro _ w9 ⟨rfl, rfl⟩
        rw [ofN_short (by omega)]
        have hob := ofB_lt 2 (s.take 2) htl
        have hnl : (s.drop 2).length + 2 = s.length := by rw [List.length_drop]; omega
        have a3 : IntKind.i64.wrap (((a + 2 : Nat) : Int) + (ofB (s.take 2) : Nat)) = ((a + 2 + ofB (s.take 2) : Nat) : Int) := by rw [wrap_id] <;> omega
        by_cases h3 : ofB (s.take 2) ≤ (s.drop 2).length
        · have e4 : decide ((512 : Int) < ((a + 2 + ofB (s.take 2) : Nat) : Int)) = false := by rw [decide_eq_false_iff_not]; omega
          have s5 : slS (stv d) (some (Value.int .i64 ((a + 2 : Nat) : Int))) (some (Value.int .i64 ((a + 2 + ofB (s.take 2) : Nat) : Int))) = some (stv ((s.drop 2).take (ofB (s.take 2)))) := by
            have := slS_lh (l := d) (i := a + 2) (j := a + 2 + ofB (s.take 2)) (by omega) (by omega) .i64 .i64
            rw [show a + 2 + ofB (s.take 2) - (a + 2) = ofB (s.take 2) by omega, ← List.drop_drop, hda] at this; exact this
          have hM2 := hM.next hlt h2 h3
          have hs' : a + 2 + ofB (s.take 2) + ((s.drop 2).drop (ofB (s.take 2))).length = 512 := by rw [List.length_drop]; omega
          have hd' : d.drop (a + 2 + ofB (s.take 2)) = (s.drop 2).drop (ofB (s.take 2)) := by rw [← hda]; simp only [List.drop_drop]
          generalize hn : ofB (s.take 2) = n at hM2 hs' hd' s5 e4 a3
          generalize (s.drop 2).take n = it at hM2 s5
          generalize (s.drop 2).drop n = s' at hM2 hs' hd'
          have hf10 := Fm.drew (fun _ => False) w9
          have hP10 : PB w9.drew g4 (headP d l) v := hP9.keep hf10 (fun e => e)
          have hx10 : w9.drew.heap[x2]? = some (.cells #[iv 0, iv 0, iv 0, iv 0, stv [], .slice none 0 0] 24) := hx9
          have hO10 := own_keep hO9 hf10 (fun _ _ _ _ e => e)
          have hF10 := Fmf hF9 hf10
          simp only [RS0, RS1, RS2, RS3, RS4, RS5, a2, a3, e4]
          refine ⟨fun w => PB w g4 (headP d l) v, hP10, ?_⟩
          generalize w9.drew = w10 at hf10 hP10 hx10 hO10 hF10
          simp only [RS0, RS1, RS2, RS3, RS4, RS5]
          refine ⟨v, fun w6 h6 => ?_, ?_⟩
          · simp only [RS0, RS1, RS2, RS3, RS4, RS5, h6.c5]; trivial
          simp only [RS0, RS1, RS2, RS3, RS4, RS5, a2, a3, s5]
          have hz10 := hF10.size
          refine RunS_ok (bs22 it w10) ⟨hP10.keep (Fm.alloc (fun _ => False) _ _) (fun e => e), ?_⟩
          have hO11 := own_keep hO10 (Fm.alloc (fun _ => False) w10 (.cells #[stv it] 9)) (fun _ _ _ _ e => e)
          have hcw : CellsAt (w10.alloc (.cells #[stv it] 9)) (.slice (some ⟨w10.heap.size, 0, none⟩) 1 1) 1 1 [stv it] := ⟨⟨_, 1, rfl, Nat.le_refl _, by simp [maxLen], (fun e => by cases e), fun j u hj => ⟨_, rfl, by rw [add_none, Nat.zero_add, cell_at (alloc_new _ _)]; simpa using hj⟩⟩, rfl⟩
          have hf11 := Fm.alloc (fun _ => False) w10 (.cells #[stv it] 9)
          have hP11 := hP10.keep hf11 (fun e => e)
          have hx11 := hf11.heap hx10 (fun e => e)
          have hF11 := Fmf hF10 hf11
          generalize w10.alloc (.cells #[stv it] 9) = w11 at hO11 hcw hP11 hx11 hF11 hf11
          have hz11 := hF11.size
          have hg11 := hP11.lt
          obtain ⟨v12, w12, hr12, hO12, hf12⟩ := append_srcO E22 (by omega) hO11 hcw (by intro u hu; simp at hu; subst hu; rfl) 22 (by unfold maxLen; omega) (by omega) hz11
          refine RunS_ok hr12 ?_
          have hne12 : v.ownBlock ≠ some g4 := own_neB hO11 hP11 (by decide)
          have hnex : v.ownBlock ≠ some x2 := own_neB hO11 hx11 (by decide)
          have hP12 := hP11.keep hf12 (fun e => hne12 e)
          have hx12 := hf12.heap hx11 (fun e => hnex e)
          have hF12 : Fm (fun _ => False) w w12 := Fm.own hF11 hf12 (fun y hy => (own_lt hO11 y hy).1)
          have hne12' : v12.ownBlock ≠ some g4 := own_neB hO12 hP12 (by decide)
          try simp only [RS0, RS1, RS2, RS3, RS4, RS5]
          refine St_blk hP12 (by show 5 < 6; decide) (own_one hO12) ?_
          intro w13 hw13 hs13 hf13
          replace hw13 : PB w13 g4 (headP d (l ++ [it])) v12 := hw13
          simp only [RS0, RS1, RS2, RS3, RS4, RS5, a2, a3, e2]
          refine ⟨⟨i + 1, a + 2 + n, l ++ [it], s', v12, rfl, by omega, hM2, hs', hd', hw13, ?_, hf13.heap hx12 (fun e => hne4 e.symm), Fm.own hF12 hf13 (by rintro y rfl; omega)⟩, by simp only [nth_1]; omega⟩
          have : w13.ownsRow w.heap.size 9 1 v12 (l.length + 1) (l.map stv ++ [stv it]) := own_keep hO12 hf13 (fun k h1 h2 h3 e => hne12' (by rw [h3, e]))
          simpa using this
        · have e4 : decide ((512 : Int) < ((a + 2 + ofB (s.take 2) : Nat) : Int)) = true := by rw [decide_eq_true_eq]; omega
          simp only [RS0, RS1, RS2, RS3, RS4, RS5, a2, a3, e4]
          refine RunS_ok (bld24z _) ?_
          refine St_all hx9 rfl rfl zone ?_
          intro w12 hw12 hs12 hf12
          exact ret 31 _ rfl rfl (pDec_none h512 hse (hM.stop hlt (fun e => h3 e.2))) w12 hw12 (Fm.own hF9 hf12 (by rintro y rfl; omega))
      · have e3 : decide ((512 : Int) < ((a + 2 : Nat) : Int)) = true := by rw [decide_eq_true_eq]; omega
        simp only [RS0, RS1, RS2, RS3, RS4, RS5, e1, a2, e3]
        refine RunS_ok (bld24z _) ?_
        refine St_all hx9 rfl rfl zone ?_
        intro w12 hw12 hs12 hf12
        exact ret 31 _ rfl rfl (pDec_none h512 hse (hM.stop hlt (fun e => h2 e.1))) w12 hw12 (Fm.own hF9 hf12 (by rintro y rfl; omega))
    · have hie : i = dMany d := by omega
      rw [hie] at hM
      have e1 : decide ((i : Int) < (dMany d : Int)) = false := by rw [decide_eq_false_iff_not]; omega
      have hag := again_iff h512 hse hM.last
      have hAs : PgAs w9 (pcs (headP d l) v) (headP d l) := ⟨⟨v, rfl, own_one hO9, CellsAt.of_own hO9⟩, fun x hx => by have := hM.2.1 x hx; omega, headP_in h512 (by omega)⟩
      simp only [RS0, RS1, RS2, RS3, RS4, RS5, e1, hP9.all]
      refine (rencode_spec hAs).mono ?_
      rintro _ w10 ⟨rfl, hf10⟩
      have hP10 := hP9.keep hf10 (fun e => e)
      have hx10 := hf10.heap hx9 (fun e => e)
      have hF10 := Fmf hF9 hf10
      have hO10 := own_keep hO9 hf10 (fun _ _ _ _ e => e)
      have bad : pDec d = (pg0, 31) → RunS Tryd.prog (Instr.build 24 #[]) w10 (fun t93_149 w_150 =>
          St 6 w_150 (pv x2) t93_149 fun u_151 w_152 =>
          RetO (resL Tryd.prog (fun j => bif Nat.beq j 2 then pv x2 else bif Nat.beq j 3 then (Value.int IntKind.i64 31) else undef) w_152 [(ResultVar.cell 2 24), (ResultVar.tmp 3)]) w_152 (fun r w' => ∃ cs, r = .tuple #[.agg cs, iv (pDec d).2] ∧ PgOw w' w.heap.size cs (pDec d).1 ∧ Fm (fun _ => False) w w')) := by
        intro hb
        refine RunS_ok (bld24z _) ?_
        refine St_all hx10 rfl rfl zone ?_
        intro w12 hw12 hs12 hf12
        exact ret 31 _ rfl rfl hb w12 hw12 (Fm.own hF10 hf12 (by rintro y rfl; omega))
      unfold encR
      rw [pEnc_err]
      simp only [RS0, RS1, RS2, RS3, RS4, RS5, bne_dec]
      cases b1 : decide (pErr (headP d l) = 0) with
      | false =>
        rw [b1, Bool.not_false, Bool.true_or, cond_true] at hag
        simp only [RS0, RS1, RS2, RS3, RS4, RS5]
        exact bad hag
      | true =>
      rw [b1, Bool.not_true, Bool.false_or] at hag
      simp only [RS0, RS1, RS2, RS3, RS4, RS5, str_inj]
      cases b2 : decide ((pEnc (headP d l)).1 = d) with
      | false =>
        rw [b2, Bool.not_false, cond_true] at hag
        simp only [RS0, RS1, RS2, RS3, RS4, RS5]
        exact bad hag
      | true =>
      rw [b2, Bool.not_true, cond_false] at hag
      simp only [RS0, RS1, RS2, RS3, RS4, RS5, hP10.all]
      refine St_all hx10 rfl rfl (by intro u hu; simp [pcs] at hu; rcases hu with rfl | rfl | rfl | rfl | rfl | rfl <;> first | rfl | exact own_one hO10) ?_
      intro w12 hw12 hs12 hf12
      refine retPg (g := x2) (i := 2) (j := 3) (u := iv 0) hw12 rfl rfl rfl _ ?_
      have hnex : v.ownBlock ≠ some x2 := own_neB hO10 hx10 (by decide)
      rw [hag]
      refine ⟨_, rfl, ⟨⟨v, rfl, own_keep hO10 hf12 (fun k h1 h2 h3 e => hnex (by rw [h3, e]))⟩, fun x hx => by have := hM.2.1 x hx; omega, headP_in h512 (by omega)⟩, Fm.own hF10 hf12 (by rintro y rfl; omega)⟩
  · intro jj hjj
    have s4 : slS (stv d) (some (Value.int .i64 4)) (some (Value.int .i64 12)) = some (stv ((d.drop 4).take 8)) := slS_lh (i := 4) (j := 12) (by omega) (by omega) .i64 .i64
    have s5 : slS (stv d) (some (Value.int .i64 14)) (some (Value.int .i64 18)) = some (stv ((d.drop 14).take 4)) := slS_lh (i := 14) (j := 18) (by omega) (by omega) .i64 .i64
    have i12 : ixS (stv d) (Value.int .i64 12) = some (.int .u8 ((dKind d : Nat))) := ixS_getD (k := 12) (by omega)
    have i13 : ixS (stv d) (Value.int .i64 13) = some (.int .u8 ((dLevel d : Nat))) := ixS_getD (k := 13) (by omega)
    have c12 : IntKind.i64.wrap (dKind d : Nat) = ((dKind d : Nat) : Int) := u8_i64 _
    have c13 : IntKind.i64.wrap (dLevel d : Nat) = ((dLevel d : Nat) : Int) := u8_i64 _
    have o1 : ofN ((d.drop 4).take 8) = dLsn d % 2 ^ 63 := rfl
    have o2 : ofN ((d.drop 14).take 4) = dRight d := ofN_short (by rw [List.length_take]; omega)
    have l1 : ((d.drop 4).take 8).length ≤ 9223372036854775806 := by rw [List.length_take]; omega
    have l2 : ((d.drop 14).take 4).length ≤ 9223372036854775806 := by rw [List.length_take]; omega
    have hf4 := Fm.drew (fun _ => False) w3
    have hx4 : w3.drew.heap[x2]? = some (.cells #[iv 0, iv 0, iv 0, iv 0, stv [], .slice none 0 0] 24) := hx2'
    have hF4 := Fmf hF2 hf4
    have hz4 := hF4.size
    have hx2l := lt_of_heap hx4
    refine ⟨fun _ => True, trivial, ?_⟩
    simp only [RS0, RS1, RS2, RS3, RS4, RS5, s4, s5, i12, i13, cvI_int, c12, c13, true_and, and_true]
    generalize w3.drew = w4 at hf4 hx4 hF4 hz4 hx2l
    have fin : ∀ (g : Nat) (w5 w6 : World), w4.heap.size ≤ g → Fm (fun _ => False) w4 w5 → w5.heap[g]? = some (.cells #[iv 0, iv 0, iv 0, iv 0, stv [], .slice none 0 0] 24) → w6.heap[g]? = some (.cells (pcs ⟨(dLsn d % 2 ^ 63 : Nat), dKind d, dLevel d, dRight d, [], []⟩ (.slice none 0 0)) 24) → Fm (· = g) w5 w6 → jj [pv g] w6 := by
      intro g w5 w6 h1 h2 h3 h4 h5
      exact hjj _ _ ⟨g, rfl, h4, by omega, by omega, h5.heap (h2.heap hx4 (fun e => e)) (by omega), Fm.own (Fmf hF4 h2) h5 (by rintro y rfl; omega)⟩
    have lay : ∀ u ∈ (pcs ⟨(dLsn d % 2 ^ 63 : Nat), dKind d, dLevel d, dRight d, [], []⟩ (.slice none 0 0)).toList, u.oneCell' = true := by
      intro u hu; simp [pcs] at hu; rcases hu with rfl | rfl | rfl | rfl | rfl | rfl <;> rfl
    refine ⟨?_, ?_⟩
    · refine (rof_spec w4 _ l1).mono ?_
      rintro _ w4 ⟨rfl, rfl⟩
      rw [o1]
      refine ⟨?_, ?_⟩
      · refine (rof_spec w4 _ l2).mono ?_
        rintro _ w4 ⟨rfl, rfl⟩
        rw [o2]
        refine ⟨_, fun w5 _ => RunS_ok (bld24a _ _ _ _ _) ⟨rfl, rfl⟩, ?_⟩
        refine New_any ?_
        intro g w5 hg hs5 hw5 hf5
        refine St_all hw5 rfl rfl lay ?_
        intro w6 hw6 hs6 hf6
        exact fin g w5 w6 (by omega) hf5 hw5 hw6 hf6
      · refine New_any ?_
        intro g w5 hg hs5 hw5 hf5
        refine (rof_spec w5 _ l2).mono ?_
        rintro _ w5 ⟨rfl, rfl⟩
        rw [o2]
        refine RunS_ok (bld24a _ _ _ _ _) ⟨rfl, ?_⟩
        refine St_all hw5 rfl rfl lay ?_
        intro w6 hw6 hs6 hf6
        exact fin g w5 w6 (by omega) hf5 hw5 hw6 hf6
    · refine New_any ?_
      intro g w5 hg hs5 hw5 hf5
      refine (rof_spec w5 _ l1).mono ?_
      rintro _ w5 ⟨rfl, rfl⟩
      rw [o1]
      refine (rof_spec w5 _ l2).mono ?_
      rintro _ w5 ⟨rfl, rfl⟩
      rw [o2]
      refine RunS_ok (bld24a _ _ _ _ _) ⟨rfl, ?_⟩
      refine St_all hw5 rfl rfl lay ?_
      intro w6 hw6 hs6 hf6
      exact fin g w5 w6 (by omega) hf5 hw5 hw6 hf6

end Go.Proofs.YtodnakepbdhfkaaDoor
