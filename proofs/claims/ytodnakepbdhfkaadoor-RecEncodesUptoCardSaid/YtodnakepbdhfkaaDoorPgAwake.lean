/- The chapter's examples of pages. -/
import Derived.Test.YtodnakepbdhfkaaDoorPgPut
namespace Go.Proofs.YtodnakepbdhfkaaDoor
open Go.Al Go.Proofs
set_option linter.unusedVariables false
set_option linter.unusedSimpArgs false
set_option linter.unusedSectionVars false
set_option maxRecDepth 100000

def pgIn : Pg := ⟨5, 2, 0, 0, [], []⟩
def pgA : Pg := ⟨5, 2, 0, 0, [], [[97, 98]]⟩
theorem putA : putP pgIn 0 [97, 98] = (pgA, 0) := by decide +kernel
theorem errA : pErr pgA = 0 := by decide +kernel
theorem sizeA : pSize pgA = 24 := by decide +kernel
theorem roomA : roomN pgA = 486 := by decide +kernel
theorem textA : ((pText pgA).drop 7).take 2 = [5, 2] := by decide +kernel
theorem sumZ : beN 4 (crc (zeros 508)) ≠ zeros 4 := by decide +kernel
theorem decZ : pDec (zeros 512) = (pg0, 30) := pDec_sum (zeros_len _) sumZ
theorem bld24b (a b : Int) (w : World) : (Instr.build 24 #[(0, iv a), (1, iv b)]).run Tryd.prog w = .ok (.agg (pcs ⟨a, b, 0, 0, [], []⟩ (.slice none 0 0))) w := by kernel_rfl
theorem pgInAs (w : World) : PgAs w (pcs pgIn (.slice none 0 0)) pgIn := ⟨⟨_, rfl, rfl, items_nil w⟩, by simp [pgIn], by simp [pgIn, In]⟩
theorem pgAIn : (∀ x ∈ pgA.items, x.length ≤ 140737488355328) ∧ (In pgA.lsn ∧ In pgA.kind ∧ In pgA.level ∧ In pgA.right ∧ pgA.high.length ≤ 140737488355328 ∧ pgA.items.length * 16 ≤ 140737488355328) := ⟨by simp [pgA], by simp [pgA, In]⟩

set_option maxHeartbeats 4000000 in
theorem awake_spec (w : World) : Cl Tryd.prog 17 [] w fun r w' => r = .bool true ∧ Fm (fun _ => False) w w' := by
  refine c17 ?_; unfold T17
  refine RunS_ok (bld24b _ _ w) ?_
  refine (put_spec (pgInAs w) (by simp [pgIn]) (i := 0) (x := [97, 98]) (by simp)).mono ?_
  rintro _ w1 ⟨cs, rfl, hfr, hf1⟩
  rw [putA] at hfr ⊢
  simp only [RS0, RS1, RS2, RS3, RS4, RS5]
  refine New_any ?_
  intro x1 w2 hx1 hs2 hw2 hf2
  refine St_all hw2 rfl hfr.size hfr.one ?_
  intro w3 hw3 hs3 hf3
  have hf13 : Fm (fun _ => False) w1 w3 := Fm.own hf2 hf3 (by rintro y rfl; omega)
  have hfr3 := hfr.keep hf13
  obtain ⟨v, rfl, _⟩ := id hfr
  have hP3 : PB w3 x1 pgA v := hw3
  have hF3 := Fmf hf1 hf13
  simp only [RS0, RS1, RS2, RS3, RS4, RS5, hP3.all]
  refine (encode_spec (hfr3.as pgAIn.1 pgAIn.2)).mono ?_
  rintro _ w4 ⟨rfl, hf4⟩
  rw [encR_ok errA]
  have hP4 := hP3.keep hf4 (fun e => e)
  have hF4 := Fmf hF3 hf4
  have hen : (pEnc pgA).1 = beN 4 (crc (pText pgA)) ++ pText pgA := by rw [pEnc_ok errA]
  have hlen := pEnc_len errA
  have hde := dec_enc errA (by simp [pgA])
  rw [hen] at hlen hde
  have h11 : ((beN 4 (crc (pText pgA)) ++ pText pgA).drop 11).take 2 = [5, 2] := by
    rw [List.drop_append, beN_len, List.drop_eq_nil_of_le (by rw [beN_len]; omega), List.nil_append]
    exact textA
  generalize beN 4 (crc (pText pgA)) ++ pText pgA = s at hlen hde h11
  simp only [RS0, RS1, RS2, RS3, RS4, RS5]
  refine (decode_spec w4 s (by omega)).mono ?_
  rintro _ w5 ⟨cs5, rfl, hO5, hf5⟩
  rw [hde] at hO5 ⊢
  have hP5 := hP4.keep hf5 (fun e => e)
  have hF5 := Fmf hF4 hf5
  have hA5 := hO5.as
  simp only [RS0, RS1, RS2, RS3, RS4, RS5]
  refine New_any ?_
  intro x5 w6 hx5 hs6 hw6 hf6
  refine St_all hw6 rfl hA5.size hA5.one ?_
  intro w7 hw7 hs7 hf7
  have hf57 : Fm (fun _ => False) w5 w7 := Fm.own hf6 hf7 (by rintro y rfl; omega)
  have hP7 := hP5.keep hf57 (fun e => e)
  have hA7 := hA5.keep hf57
  have hF7 := Fmf hF5 hf57
  have hq7 : cellsV w7 ⟨x5, 0, none⟩ 6 = some (.agg cs5) := cellsV_blk hw7 hA5.size
  obtain ⟨w8, hm, hb8, hf8⟩ := make_zeros w7 512 (by omega)
  refine RunS_ok hm ?_
  refine RunS_ok (conv_zeros hb8) ?_
  refine (decode_spec w8 (zeros 512) (by rw [zeros_len]; omega)).mono ?_
  rintro _ w9 ⟨cs9, rfl, hO9, hf9⟩
  rw [decZ] at hO9 ⊢
  have hA9 := hO9.as
  simp only [RS0, RS1, RS2, RS3, RS4, RS5]
  refine New_any ?_
  intro x7 w10 hx7 hs10 hw10 hf10
  refine St_all hw10 rfl hA9.size hA9.one ?_
  intro w11 hw11 hs11 hf11
  have hf911 : Fm (fun _ => False) w9 w11 := Fm.own hf10 hf11 (by rintro y rfl; omega)
  have hf711 : Fm (fun _ => False) w7 w11 := Fmf (Fmf hf8 hf9) hf911
  have hP11 := hP7.keep hf711 (fun e => e)
  have hA11 := hA7.keep hf711
  have hF11 := Fmf hF7 hf711
  have hq11 := cellsV_keep hq7 hf711 (fun e => e)
  have hfr11 := hfr3.keep (Fmf (Fmf (Fmf hf4 hf5) hf57) hf711)
  have hp11 := hfr11.as pgAIn.1 pgAIn.2
  simp only [RS0, RS1, RS2, RS3, RS4, RS5, beq_dec, decide_true, hP11.all, hq11]
  refine (same_spec hp11 hA11).mono ?_
  rintro _ w12 ⟨rfl, hf12⟩
  have s11 : slS (stv s) (some (Value.int .i64 11)) (some (Value.int .i64 13)) = some (stv [5, 2]) := by
    have := slS_lh (l := s) (i := 11) (j := 13) (by omega) (by omega) .i64 .i64
    rw [show 13 - 11 = 2 by omega, h11] at this; exact this
  have e512 : ((s.length : Int) == 512) = true := by rw [hlen]; rfl
  have hm52 : ByteArray.mk #[5, 2] = str [5, 2] := rfl
  have hP12 := hP11.keep hf12 (fun e => e)
  have hp12 := hp11.keep hf12
  have hF12 := Fmf hF11 hf12
  simp only [RS0, RS1, RS2, RS3, RS4, RS5, decide_true, str_size, e512, s11, hm52, hP12.all]
  refine (size_spec hp12).mono ?_
  rintro _ w13 ⟨rfl, hf13⟩
  have hP13 := hP12.keep hf13 (fun e => e)
  have hp13 := hp12.keep hf13
  rw [sizeA]
  have e24 : (IntKind.i64.wrap (24 : Nat) == 24) = true := by rw [wrap_nat (by omega)]; rfl
  simp only [RS0, RS1, RS2, RS3, RS4, RS5, e24, hP13.all]
  refine (room_spec hp13).mono ?_
  rintro _ w14 ⟨rfl, hf14⟩
  rw [roomA]
  simp only [RS0, RS1, RS2, RS3, RS4, RS5, beq_self_eq_true]
  exact ⟨(by trivial), Fmf hF12 (Fmf hf13 hf14)⟩

end Go.Proofs.YtodnakepbdhfkaaDoor
