/- What a restart finds: the second walk and the third. -/
import Derived.Test.YthgdinjgdjiknaaRestP
namespace Go.Proofs.Ythgdinjgdjiknaa
open Go.Al Go.Proofs
set_option linter.unusedVariables false
set_option linter.unusedSimpArgs false
set_option linter.unusedSectionVars false
set_option maxRecDepth 100000

theorem plain_setD (D : List (Int × RV)) (a : Int) (x : RV) : plainD (setD D a x) = setD (plainD D) a x.1 := by
  unfold plainD
  induction D with
  | nil => rfl
  | cons p D ih =>
    simp only [setD, List.map_cons]
    split
    · rename_i hp; simp [setD, hp]
    · rename_i hp; simp [setD, hp, ih]
theorem mem_setD {β : Type} {D : List (Int × β)} {a : Int} {b : β} {p : Int × β} (h : p ∈ setD D a b) : p ∈ D ∨ p = (a, b) := by
  induction D with
  | nil => simp [setD] at h; exact .inr h
  | cons q D ih =>
    simp only [setD] at h
    split at h
    · rcases List.mem_cons.1 h with rfl | h
      · exact .inr rfl
      · exact .inl (List.mem_cons_of_mem _ h)
    · rcases List.mem_cons.1 h with rfl | h
      · exact .inl (by simp)
      · rcases ih h with h | h
        · exact .inl (List.mem_cons_of_mem _ h)
        · exact .inr h

set_option maxHeartbeats 2000000 in
/-- The second walk over the records. -/
theorem second_walk {w0 w : World} {v : Value} {rs : List Rc} (hv : SliceAs vRc w0 v rs) (hF0 : Fm (fun _ => False) w0 w) {b1 b2 : Nat} (hb1 : MapAt w b1 (Value.int .i64) rvv []) (hb2 : MapAt w b2 (Value.int .i64) (Value.int .i64) []) (h1 : w0.heap.size ≤ b1) (h2 : w0.heap.size ≤ b2) (h12 : b1 ≠ b2) {k : World → Prop}
    (hk : ∀ w' (D : List (Int × RV)), plainD D = byM rs → (∀ p ∈ D, RcAs w0 p.2.2 p.2.1) → MapAt w' b1 (Value.int .i64) rvv D → MapAt w' b2 (Value.int .i64) (Value.int .i64) (lastM rs) → Fm (fun x => x = b1 ∨ x = b2) w w' → k w') :
    (Pu (lenV v) fun t107_311 =>
      ∃ (I_312 : List Value → World → Prop) (m_313 : List Value → World → Nat), I_312 [(Value.int IntKind.i64 0)] w ∧
      ∀ (g_360 : Fr) (w_359 : World), ∀ t108_318 : Value, I_312 [t108_318] w_359 →
        (Pu (binV (TypeDesc.int IntKind.i64) .lss t108_318 t107_311) fun t109_361 =>
        IfB t109_361
          (Jn (fun vs_405 w_404 => ∀ g_406 : Fr, vs_405 = [] ∧
            (Pu (binV (TypeDesc.int IntKind.i64) .add t108_318 (Value.int IntKind.i64 1)) fun t148_407 =>
            I_312 [t148_407] w_404 ∧ m_313 [t148_407] w_404 < m_313 [t108_318] w_359))
          (fun jj_362 =>
          Pu (ixV 16 v t108_318) fun t110_408 =>
          LdN 16 w_359 t110_408 fun t111_409 w_410 =>
          New #[(Value.int IntKind.i64 0), (Value.int IntKind.i64 0), (Value.int IntKind.i64 0), (Value.int IntKind.u8 0), (Value.int IntKind.i64 0), (Value.int IntKind.i64 0), (Value.int IntKind.i64 0), (Value.int IntKind.i64 0), (Value.int IntKind.i64 0), (Value.int IntKind.i64 0), (Value.string (ByteArray.mk #[])), (Value.slice none 0 0), (Value.slice none 0 0), (Value.slice none 0 0), (Value.slice none 0 0), (Value.slice none 0 0)] 75 w_410 fun r18_411 w_412 =>
          St 16 w_412 r18_411 t111_409 fun u_413 w_414 =>
          Jn (fun vs_432 w_431 => ∀ g_433 : Fr, vs_432 = [] ∧
              (LdN 16 w_431 r18_411 fun t125_434 w_435 =>
              Cl Try.prog 76 [t125_434] w_435 fun t126_436 w_437 =>
              Pu (unV .not t126_436) fun t127_438 =>
              IfB t127_438
                (jj_362 [] w_437)
                (Pu (faV 3 r18_411) fun t128_439 =>
              Ld w_437 t128_439 fun t129_440 w_441 =>
              Jn (fun vs_447 w_446 => ∀ g_448 : Fr, ∃ t135_443 : Value, vs_447 = [t135_443] ∧
                  (IfB t135_443
                    (Pu (faV 4 r18_411) fun t139_449 =>
                      Ld w_446 t139_449 fun t140_450 w_451 =>
                      RunS Try.prog (Builtin.delete_ #[140, 3] 0 #[(Value.map (some b2)), t140_450]) w_451 fun u_452 w_453 =>
                      jj_362 [] w_453)
                    (Pu (binV (TypeDesc.int IntKind.u8) .eql t129_440 (Value.int IntKind.u8 6)) fun t142_454 =>
                      IfB t142_454
                        (Pu (faV 4 r18_411) fun t144_455 =>
                          Ld w_446 t144_455 fun t145_456 w_457 =>
                          Pu (faV 2 r18_411) fun t146_458 =>
                          Ld w_457 t146_458 fun t147_459 w_460 =>
                          RunU Try.prog (Instr.mapUpdate 140 (Value.map (some b2)) t145_456 t147_459) w_460 fun u_461 w_462 =>
                          jj_362 [] w_462)
                        (Pu (faV 4 r18_411) fun t131_463 =>
                          Ld w_446 t131_463 fun t132_464 w_465 =>
                          Pu (faV 0 r18_411) fun t133_466 =>
                          Ld w_465 t133_466 fun t134_467 w_468 =>
                          RunU Try.prog (Instr.mapUpdate 140 (Value.map (some b2)) t132_464 t134_467) w_468 fun u_469 w_470 =>
                          jj_362 [] w_470))))
                (fun jj_442 =>
                Pu (binV (TypeDesc.int IntKind.u8) .eql t129_440 (Value.int IntKind.u8 7)) fun t136_471 =>
                IfB t136_471
                  (jj_442 [t136_471] w_441)
                  (Pu (binV (TypeDesc.int IntKind.u8) .eql t129_440 (Value.int IntKind.u8 8)) fun t137_472 =>
                    jj_442 [t137_472] w_441)))))
            (fun jj_415 =>
            Pu (faV 0 r18_411) fun t114_473 =>
            Ld w_414 t114_473 fun t115_474 w_475 =>
            RunS Try.prog (Instr.lookup 139 (Value.map (some b1)) t115_474 true) w_475 fun t116_476 w_477 =>
            Pu (extV t116_476 0) fun t117_478 =>
            Pu (extV t116_476 1) fun t118_479 =>
            New #[(Value.int IntKind.i64 0), (Value.int IntKind.i64 0), (Value.int IntKind.i64 0), (Value.int IntKind.u8 0), (Value.int IntKind.i64 0), (Value.int IntKind.i64 0), (Value.int IntKind.i64 0), (Value.int IntKind.i64 0), (Value.int IntKind.i64 0), (Value.int IntKind.i64 0), (Value.string (ByteArray.mk #[])), (Value.slice none 0 0), (Value.slice none 0 0), (Value.slice none 0 0), (Value.slice none 0 0), (Value.slice none 0 0)] 75 w_477 fun t19_480 w_481 =>
            St 16 w_481 t19_480 t117_478 fun u_482 w_483 =>
            Pu (unV .not t118_479) fun t120_484 =>
            IfB t120_484
              (Pu (faV 0 r18_411) fun t122_485 =>
                Ld w_483 t122_485 fun t123_486 w_487 =>
                LdN 16 w_487 r18_411 fun t124_488 w_489 =>
                RunU Try.prog (Instr.mapUpdate 139 (Value.map (some b1)) t123_486 t124_488) w_489 fun u_490 w_491 =>
                jj_415 [] w_491)
              (jj_415 [] w_483))))
          (k w_359))) := by
  have hlen := hv.len
  unfold maxLen at hlen
  have hl1 := hb1.lt
  have hl2 := hb2.lt
  simp only [Pu_some, extV_0, extV_1, extV_2, extV_3, nilV_ptr, nilV_fn, faV_ptr, lenV_sl, lenS_s, capV_sl, pickV_t, pickV_f, unV_not, unV_neg, isB_t, isB_f, isB_u, binV_add, binV_sub, binV_mul, binV_eql, binV_neq, binV_lss, binV_leq, binV_gtr, binV_geq, binV_seql, binV_sneq, binV_slss, binV_beql, binV_bneq, binV_peql, binV_pneq, add_add, add_none, Go.Al.add_zero, Nat.zero_add, Nat.add_zero, IfB_t, IfB_f, Gd_t, Gd_f, Ld_ptr, LdN_ptr, Option.isNone_some, Option.isNone_none, Option.isSome_some, Option.isSome_none, Bool.not_true, Bool.not_false, drew_cell, drew_heap, hv.lenV]
  refine ⟨fun vs w2 => ∃ (i : Nat) (D : List (Int × RV)), vs = [iv i] ∧ i ≤ rs.length ∧ plainD D = (rs.take i).foldl bstep [] ∧ (∀ p ∈ D, RcAs w0 p.2.2 p.2.1) ∧ MapAt w2 b1 (Value.int .i64) rvv D ∧ MapAt w2 b2 (Value.int .i64) (Value.int .i64) ((rs.take i).foldl lstep []) ∧ Fm (fun x => x = b1 ∨ x = b2) w w2, fun vs _ => (rs.length - nth vs 0).toNat, ⟨0, [], rfl, by omega, rfl, by simp, hb1, hb2, Fm.refl _ _⟩, ?_⟩
  rintro _ w2 iv_ ⟨i, D, hvs, hi, hD, hDr, hM1, hM2, hf2⟩
  cases hvs
  have hF2 : Fm (fun _ => False) w0 w2 := Fm.own hF0 hf2 (by rintro x (rfl | rfl) <;> (have := hF0.size; omega))
  have hm1 := hM1.lt
  have hm2 := hM2.lt
  by_cases hlt : i < rs.length
  · have e1 : decide ((i : Int) < (rs.length : Int)) = true := by rw [decide_eq_true_eq]; omega
    have e2 : IntKind.i64.wrap ((i : Int) + 1) = ((i + 1 : Nat) : Int) := by rw [wrap_id] <;> omega
    have hx : rs[i]? = some rs[i] := List.getElem?_eq_getElem hlt
    generalize rs[i] = r at hx
    have hb := foldl_take bstep [] hx
    have hl := foldl_take lstep [] hx
    generalize (rs.take i).foldl bstep [] = B at hD hb
    generalize (rs.take i).foldl lstep [] = L at hM2 hl
    obtain ⟨ad, cs, hix, hrc0, hld0⟩ := rec_ld hv hx
    have hrc := hrc0.keep hF2
    have hld := cellsV_keep hld0 hF2 (fun e => e)
    simp only [Pu_some, extV_0, extV_1, extV_2, extV_3, nilV_ptr, nilV_fn, faV_ptr, lenV_sl, lenS_s, capV_sl, pickV_t, pickV_f, unV_not, unV_neg, isB_t, isB_f, isB_u, binV_add, binV_sub, binV_mul, binV_eql, binV_neq, binV_lss, binV_leq, binV_gtr, binV_geq, binV_seql, binV_sneq, binV_slss, binV_beql, binV_bneq, binV_peql, binV_pneq, add_add, add_none, Go.Al.add_zero, Nat.zero_add, Nat.add_zero, IfB_t, IfB_f, Gd_t, Gd_f, Ld_ptr, LdN_ptr, Option.isNone_some, Option.isNone_none, Option.isSome_some, Option.isSome_none, Bool.not_true, Bool.not_false, drew_cell, drew_heap, e1]
    refine Jn_at (fun vs w3 => vs = [] ∧ (∃ D', plainD D' = bstep B r ∧ (∀ p ∈ D', RcAs w0 p.2.2 p.2.1) ∧ MapAt w3 b1 (Value.int .i64) rvv D') ∧ MapAt w3 b2 (Value.int .i64) (Value.int .i64) (lstep L r) ∧ Fm (fun x => x = b1 ∨ x = b2) w2 w3) ?_ ?_
    · rintro _ w3 ⟨rfl, ⟨D', g1, g2, g3⟩, hl3, hf3⟩ _
      refine ⟨(by trivial), ?_⟩
      simp only [Pu_some, extV_0, extV_1, extV_2, extV_3, nilV_ptr, nilV_fn, faV_ptr, lenV_sl, lenS_s, capV_sl, pickV_t, pickV_f, unV_not, unV_neg, isB_t, isB_f, isB_u, binV_add, binV_sub, binV_mul, binV_eql, binV_neq, binV_lss, binV_leq, binV_gtr, binV_geq, binV_seql, binV_sneq, binV_slss, binV_beql, binV_bneq, binV_peql, binV_pneq, add_add, add_none, Go.Al.add_zero, Nat.zero_add, Nat.add_zero, IfB_t, IfB_f, Gd_t, Gd_f, Ld_ptr, LdN_ptr, Option.isNone_some, Option.isNone_none, Option.isSome_some, Option.isSome_none, Bool.not_true, Bool.not_false, drew_cell, drew_heap, e2]
      refine ⟨⟨i + 1, D', rfl, by omega, by rw [hb]; exact g1, g2, g3, by rw [hl]; exact hl3, hf2.trans hf3 (fun _ _ e => e) (fun _ _ e => e)⟩, by simp only [nth_0]; omega⟩
    intro kk hkk
    simp only [Pu_some, extV_0, extV_1, extV_2, extV_3, nilV_ptr, nilV_fn, faV_ptr, lenV_sl, lenS_s, capV_sl, pickV_t, pickV_f, unV_not, unV_neg, isB_t, isB_f, isB_u, binV_add, binV_sub, binV_mul, binV_eql, binV_neq, binV_lss, binV_leq, binV_gtr, binV_geq, binV_seql, binV_sneq, binV_slss, binV_beql, binV_bneq, binV_peql, binV_pneq, add_add, add_none, Go.Al.add_zero, Nat.zero_add, Nat.add_zero, IfB_t, IfB_f, Gd_t, Gd_f, Ld_ptr, LdN_ptr, Option.isNone_some, Option.isNone_none, Option.isSome_some, Option.isSome_none, Bool.not_true, Bool.not_false, drew_cell, drew_heap, hix, hld]
    refine New_any ?_
    intro x18 w3 hx18 hs3 hw3 hf3
    refine St_all hw3 rfl hrc.size hrc.one ?_
    intro w4 hw4 hs4 hf4
    have hf2_4 : Fm (fun _ => False) w2 w4 := Fm.own hf3 hf4 (by rintro y rfl; omega)
    have hr4 : RcAt w4 x18 r := ⟨cs, hw4, hrc.keep hf2_4⟩
    have up : ∀ {a b : World}, Fm (fun _ => False) a b → Fm (fun x => x = b1 ∨ x = b2) a b := fun hf => hf.mono (fun _ _ e => e.elim)
    have hn18 : x18 ≠ b1 ∧ x18 ≠ b2 := by omega
    refine Jn_at (fun vs w5 => vs = [] ∧ (∃ D', plainD D' = bstep B r ∧ (∀ p ∈ D', RcAs w0 p.2.2 p.2.1) ∧ MapAt w5 b1 (Value.int .i64) rvv D') ∧ MapAt w5 b2 (Value.int .i64) (Value.int .i64) L ∧ w5.heap[x18]? = some (.cells cs 75) ∧ RcAs w5 cs r ∧ Fm (fun x => x = b1 ∨ x = b2) w2 w5) ?_ ?_
    · rintro _ w5 ⟨rfl, hD5, hL5, hw5, hrc5, hf5⟩ _
      refine ⟨(by trivial), ?_⟩
      have hr5 : RcAt w5 x18 r := ⟨cs, hw5, hrc5⟩
      have hm5 := hL5.lt
      unfold lstep at hkk
      simp only [Pu_some, extV_0, extV_1, extV_2, extV_3, nilV_ptr, nilV_fn, faV_ptr, lenV_sl, lenS_s, capV_sl, pickV_t, pickV_f, unV_not, unV_neg, isB_t, isB_f, isB_u, binV_add, binV_sub, binV_mul, binV_eql, binV_neq, binV_lss, binV_leq, binV_gtr, binV_geq, binV_seql, binV_sneq, binV_slss, binV_beql, binV_bneq, binV_peql, binV_pneq, add_add, add_none, Go.Al.add_zero, Nat.zero_add, Nat.add_zero, IfB_t, IfB_f, Gd_t, Gd_f, Ld_ptr, LdN_ptr, Option.isNone_some, Option.isNone_none, Option.isSome_some, Option.isSome_none, Bool.not_true, Bool.not_false, drew_cell, drew_heap, cellsV_blk hw5 hrc.size]
      refine (mine_spec hrc5).mono ?_
      rintro _ w6 ⟨rfl, hf6⟩
      obtain ⟨D5, g1, g2, g3⟩ := hD5
      have hD6 : ∃ D', plainD D' = bstep B r ∧ (∀ p ∈ D', RcAs w0 p.2.2 p.2.1) ∧ MapAt w6 b1 (Value.int .i64) rvv D' := ⟨D5, g1, g2, g3.keep hf6 (fun e => e)⟩
      have hL6 := hL5.keep hf6 (fun e => e)
      have hr6 := hr5.keep hf6
      have hf2_6 : Fm (fun x => x = b1 ∨ x = b2) w2 w6 := hf5.trans (up hf6) (fun _ _ e => e) (fun _ _ e => e)
      cases hmn : mine r with
      | false =>
        rw [hmn, Bool.not_false, cond_true] at hkk
        simp only [Pu_some, extV_0, extV_1, extV_2, extV_3, nilV_ptr, nilV_fn, faV_ptr, lenV_sl, lenS_s, capV_sl, pickV_t, pickV_f, unV_not, unV_neg, isB_t, isB_f, isB_u, binV_add, binV_sub, binV_mul, binV_eql, binV_neq, binV_lss, binV_leq, binV_gtr, binV_geq, binV_seql, binV_sneq, binV_slss, binV_beql, binV_bneq, binV_peql, binV_pneq, add_add, add_none, Go.Al.add_zero, Nat.zero_add, Nat.add_zero, IfB_t, IfB_f, Gd_t, Gd_f, Ld_ptr, LdN_ptr, Option.isNone_some, Option.isNone_none, Option.isSome_some, Option.isSome_none, Bool.not_true, Bool.not_false, drew_cell, drew_heap]
        exact hkk _ _ ⟨rfl, hD6, hL6, hf2_6⟩
      | true =>
        rw [hmn, Bool.not_true, cond_false] at hkk
        simp only [Pu_some, extV_0, extV_1, extV_2, extV_3, nilV_ptr, nilV_fn, faV_ptr, lenV_sl, lenS_s, capV_sl, pickV_t, pickV_f, unV_not, unV_neg, isB_t, isB_f, isB_u, binV_add, binV_sub, binV_mul, binV_eql, binV_neq, binV_lss, binV_leq, binV_gtr, binV_geq, binV_seql, binV_sneq, binV_slss, binV_beql, binV_bneq, binV_peql, binV_pneq, add_add, add_none, Go.Al.add_zero, Nat.zero_add, Nat.add_zero, IfB_t, IfB_f, Gd_t, Gd_f, Ld_ptr, LdN_ptr, Option.isNone_some, Option.isNone_none, Option.isSome_some, Option.isSome_none, Bool.not_true, Bool.not_false, drew_cell, drew_heap, hr6.c3]
        refine Jn_at (fun vs w7 => vs = [.bool (decide (r.kind = 7) || decide (r.kind = 8))] ∧ w7 = w6) ?_ ?_
        · rintro _ w7 ⟨rfl, rfl⟩ _
          refine ⟨_, rfl, ?_⟩
          obtain ⟨D6, q1, q2, q3⟩ := hD6
          cases h78 : decide (r.kind = 7) || decide (r.kind = 8) with
          | true =>
            rw [h78, cond_true] at hkk
            obtain ⟨w8, hr8, hM8, hf8, _⟩ := delete_run K140 hL6 r.xid 0 3
            simp only [Pu_some, extV_0, extV_1, extV_2, extV_3, nilV_ptr, nilV_fn, faV_ptr, lenV_sl, lenS_s, capV_sl, pickV_t, pickV_f, unV_not, unV_neg, isB_t, isB_f, isB_u, binV_add, binV_sub, binV_mul, binV_eql, binV_neq, binV_lss, binV_leq, binV_gtr, binV_geq, binV_seql, binV_sneq, binV_slss, binV_beql, binV_bneq, binV_peql, binV_pneq, add_add, add_none, Go.Al.add_zero, Nat.zero_add, Nat.add_zero, IfB_t, IfB_f, Gd_t, Gd_f, Ld_ptr, LdN_ptr, Option.isNone_some, Option.isNone_none, Option.isSome_some, Option.isSome_none, Bool.not_true, Bool.not_false, drew_cell, drew_heap, hr6.c4]
            refine RunS_ok hr8 ?_
            exact hkk _ _ ⟨rfl, ⟨D6, q1, q2, q3.keep hf8 h12⟩, hM8, hf2_6.trans hf8 (fun _ _ e => e) (fun _ _ e => .inr e)⟩
          | false =>
            rw [h78, cond_false] at hkk
            simp only [Pu_some, extV_0, extV_1, extV_2, extV_3, nilV_ptr, nilV_fn, faV_ptr, lenV_sl, lenS_s, capV_sl, pickV_t, pickV_f, unV_not, unV_neg, isB_t, isB_f, isB_u, binV_add, binV_sub, binV_mul, binV_eql, binV_neq, binV_lss, binV_leq, binV_gtr, binV_geq, binV_seql, binV_sneq, binV_slss, binV_beql, binV_bneq, binV_peql, binV_pneq, add_add, add_none, Go.Al.add_zero, Nat.zero_add, Nat.add_zero, IfB_t, IfB_f, Gd_t, Gd_f, Ld_ptr, LdN_ptr, Option.isNone_some, Option.isNone_none, Option.isSome_some, Option.isSome_none, Bool.not_true, Bool.not_false, drew_cell, drew_heap, beq_dec]
            cases hk6 : decide (r.kind = 6) with
            | true =>
              rw [hk6, cond_true] at hkk
              obtain ⟨w8, hr8, hM8, hf8, _⟩ := update_run K140 hL6 r.xid r.next
              simp only [Pu_some, extV_0, extV_1, extV_2, extV_3, nilV_ptr, nilV_fn, faV_ptr, lenV_sl, lenS_s, capV_sl, pickV_t, pickV_f, unV_not, unV_neg, isB_t, isB_f, isB_u, binV_add, binV_sub, binV_mul, binV_eql, binV_neq, binV_lss, binV_leq, binV_gtr, binV_geq, binV_seql, binV_sneq, binV_slss, binV_beql, binV_bneq, binV_peql, binV_pneq, add_add, add_none, Go.Al.add_zero, Nat.zero_add, Nat.add_zero, IfB_t, IfB_f, Gd_t, Gd_f, Ld_ptr, LdN_ptr, Option.isNone_some, Option.isNone_none, Option.isSome_some, Option.isSome_none, Bool.not_true, Bool.not_false, drew_cell, drew_heap, hr6.c4, hr6.c2]
              refine RunU_ok hr8 ?_
              exact hkk _ _ ⟨rfl, ⟨D6, q1, q2, q3.keep hf8 h12⟩, hM8, hf2_6.trans hf8 (fun _ _ e => e) (fun _ _ e => .inr e)⟩
            | false =>
              rw [hk6, cond_false] at hkk
              obtain ⟨w8, hr8, hM8, hf8, _⟩ := update_run K140 hL6 r.xid r.lsn
              simp only [Pu_some, extV_0, extV_1, extV_2, extV_3, nilV_ptr, nilV_fn, faV_ptr, lenV_sl, lenS_s, capV_sl, pickV_t, pickV_f, unV_not, unV_neg, isB_t, isB_f, isB_u, binV_add, binV_sub, binV_mul, binV_eql, binV_neq, binV_lss, binV_leq, binV_gtr, binV_geq, binV_seql, binV_sneq, binV_slss, binV_beql, binV_bneq, binV_peql, binV_pneq, add_add, add_none, Go.Al.add_zero, Nat.zero_add, Nat.add_zero, IfB_t, IfB_f, Gd_t, Gd_f, Ld_ptr, LdN_ptr, Option.isNone_some, Option.isNone_none, Option.isSome_some, Option.isSome_none, Bool.not_true, Bool.not_false, drew_cell, drew_heap, hr6.c4, hr6.c0]
              refine RunU_ok hr8 ?_
              exact hkk _ _ ⟨rfl, ⟨D6, q1, q2, q3.keep hf8 h12⟩, hM8, hf2_6.trans hf8 (fun _ _ e => e) (fun _ _ e => .inr e)⟩
        · intro jj2 hjj2
          simp only [Pu_some, extV_0, extV_1, extV_2, extV_3, nilV_ptr, nilV_fn, faV_ptr, lenV_sl, lenS_s, capV_sl, pickV_t, pickV_f, unV_not, unV_neg, isB_t, isB_f, isB_u, binV_add, binV_sub, binV_mul, binV_eql, binV_neq, binV_lss, binV_leq, binV_gtr, binV_geq, binV_seql, binV_sneq, binV_slss, binV_beql, binV_bneq, binV_peql, binV_pneq, add_add, add_none, Go.Al.add_zero, Nat.zero_add, Nat.add_zero, IfB_t, IfB_f, Gd_t, Gd_f, Ld_ptr, LdN_ptr, Option.isNone_some, Option.isNone_none, Option.isSome_some, Option.isSome_none, Bool.not_true, Bool.not_false, drew_cell, drew_heap, beq_dec]
          cases h7 : decide (r.kind = 7) with
          | true => simp only [Pu_some, extV_0, extV_1, extV_2, extV_3, nilV_ptr, nilV_fn, faV_ptr, lenV_sl, lenS_s, capV_sl, pickV_t, pickV_f, unV_not, unV_neg, isB_t, isB_f, isB_u, binV_add, binV_sub, binV_mul, binV_eql, binV_neq, binV_lss, binV_leq, binV_gtr, binV_geq, binV_seql, binV_sneq, binV_slss, binV_beql, binV_bneq, binV_peql, binV_pneq, add_add, add_none, Go.Al.add_zero, Nat.zero_add, Nat.add_zero, IfB_t, IfB_f, Gd_t, Gd_f, Ld_ptr, LdN_ptr, Option.isNone_some, Option.isNone_none, Option.isSome_some, Option.isSome_none, Bool.not_true, Bool.not_false, drew_cell, drew_heap]; exact hjj2 _ _ ⟨by rw [h7]; rfl, rfl⟩
          | false => simp only [Pu_some, extV_0, extV_1, extV_2, extV_3, nilV_ptr, nilV_fn, faV_ptr, lenV_sl, lenS_s, capV_sl, pickV_t, pickV_f, unV_not, unV_neg, isB_t, isB_f, isB_u, binV_add, binV_sub, binV_mul, binV_eql, binV_neq, binV_lss, binV_leq, binV_gtr, binV_geq, binV_seql, binV_sneq, binV_slss, binV_beql, binV_bneq, binV_peql, binV_pneq, add_add, add_none, Go.Al.add_zero, Nat.zero_add, Nat.add_zero, IfB_t, IfB_f, Gd_t, Gd_f, Ld_ptr, LdN_ptr, Option.isNone_some, Option.isNone_none, Option.isSome_some, Option.isSome_none, Bool.not_true, Bool.not_false, drew_cell, drew_heap]; exact hjj2 _ _ ⟨by rw [h7]; rfl, rfl⟩
    · intro jj hjj
      have hM1' := hM1.keep hf2_4 (fun e => e)
      have hM2' := hM2.keep hf2_4 (fun e => e)
      have hlk := lookup_run K139 hM1' r.lsn true (z75 w4)
      have hg := getD_plain D r.lsn
      rw [hD] at hg
      simp only [Pu_some, extV_0, extV_1, extV_2, extV_3, nilV_ptr, nilV_fn, faV_ptr, lenV_sl, lenS_s, capV_sl, pickV_t, pickV_f, unV_not, unV_neg, isB_t, isB_f, isB_u, binV_add, binV_sub, binV_mul, binV_eql, binV_neq, binV_lss, binV_leq, binV_gtr, binV_geq, binV_seql, binV_sneq, binV_slss, binV_beql, binV_bneq, binV_peql, binV_pneq, add_add, add_none, Go.Al.add_zero, Nat.zero_add, Nat.add_zero, IfB_t, IfB_f, Gd_t, Gd_f, Ld_ptr, LdN_ptr, Option.isNone_some, Option.isNone_none, Option.isSome_some, Option.isSome_none, Bool.not_true, Bool.not_false, drew_cell, drew_heap, hr4.c0]
      cases hgd : getD D r.lsn with
      | some rv =>
        rw [hgd] at hg hlk
        have hbs : bstep B r = B := by unfold bstep; rw [hg]; rfl
        refine RunS_ok hlk ?_
        simp only [okV, cond_true]
        have hrv := hDr _ (getD_mem hgd)
        simp only [Pu_some, extV_0, extV_1, extV_2, extV_3, nilV_ptr, nilV_fn, faV_ptr, lenV_sl, lenS_s, capV_sl, pickV_t, pickV_f, unV_not, unV_neg, isB_t, isB_f, isB_u, binV_add, binV_sub, binV_mul, binV_eql, binV_neq, binV_lss, binV_leq, binV_gtr, binV_geq, binV_seql, binV_sneq, binV_slss, binV_beql, binV_bneq, binV_peql, binV_pneq, add_add, add_none, Go.Al.add_zero, Nat.zero_add, Nat.add_zero, IfB_t, IfB_f, Gd_t, Gd_f, Ld_ptr, LdN_ptr, Option.isNone_some, Option.isNone_none, Option.isSome_some, Option.isSome_none, Bool.not_true, Bool.not_false, drew_cell, drew_heap, rvv]
        refine New_any ?_
        intro x19 w5 hx19 hs5 hw5 hf5
        refine St_all hw5 rfl hrv.size hrv.one ?_
        intro w6 hw6 hs6 hf6
        have hf4_6 : Fm (fun _ => False) w4 w6 := Fm.own hf5 hf6 (by rintro y rfl; omega)
        refine hjj _ _ ⟨rfl, ⟨D, by rw [hbs, hD], hDr, hM1'.keep hf4_6 (fun e => e)⟩, hM2'.keep hf4_6 (fun e => e), hf4_6.heap hw4 (fun e => e), (hrc.keep hf2_4).keep hf4_6, up (Fmf hf2_4 hf4_6)⟩
      | none =>
        rw [hgd] at hg hlk
        have hbs : bstep B r = setD B r.lsn r := by unfold bstep; rw [hg]; rfl
        refine RunS_ok hlk ?_
        simp only [okV, cond_true]
        try simp only [Pu_some, extV_0, extV_1, extV_2, extV_3, nilV_ptr, nilV_fn, faV_ptr, lenV_sl, lenS_s, capV_sl, pickV_t, pickV_f, unV_not, unV_neg, isB_t, isB_f, isB_u, binV_add, binV_sub, binV_mul, binV_eql, binV_neq, binV_lss, binV_leq, binV_gtr, binV_geq, binV_seql, binV_sneq, binV_slss, binV_beql, binV_bneq, binV_peql, binV_pneq, add_add, add_none, Go.Al.add_zero, Nat.zero_add, Nat.add_zero, IfB_t, IfB_f, Gd_t, Gd_f, Ld_ptr, LdN_ptr, Option.isNone_some, Option.isNone_none, Option.isSome_some, Option.isSome_none, Bool.not_true, Bool.not_false, drew_cell, drew_heap]
        refine New_any ?_
        intro x19 w5 hx19 hs5 hw5 hf5
        refine St_all hw5 rfl rfl (by intro u hu; simp at hu; rcases hu with rfl | rfl | rfl | rfl | rfl <;> rfl) ?_
        intro w6 hw6 hs6 hf6
        have hf4_6 : Fm (fun _ => False) w4 w6 := Fm.own hf5 hf6 (by rintro y rfl; omega)
        have hr6 := hr4.keep hf4_6
        have hw6' := hf4_6.heap hw4 (fun e => e)
        obtain ⟨w7, hr7, hM7, hf7, _⟩ := update_run K139 (hM1'.keep hf4_6 (fun e => e)) r.lsn ((r, cs) : RV)
        simp only [Pu_some, extV_0, extV_1, extV_2, extV_3, nilV_ptr, nilV_fn, faV_ptr, lenV_sl, lenS_s, capV_sl, pickV_t, pickV_f, unV_not, unV_neg, isB_t, isB_f, isB_u, binV_add, binV_sub, binV_mul, binV_eql, binV_neq, binV_lss, binV_leq, binV_gtr, binV_geq, binV_seql, binV_sneq, binV_slss, binV_beql, binV_bneq, binV_peql, binV_pneq, add_add, add_none, Go.Al.add_zero, Nat.zero_add, Nat.add_zero, IfB_t, IfB_f, Gd_t, Gd_f, Ld_ptr, LdN_ptr, Option.isNone_some, Option.isNone_none, Option.isSome_some, Option.isSome_none, Bool.not_true, Bool.not_false, drew_cell, drew_heap, hr6.c0, cellsV_blk hw6' hrc.size]
        refine RunU_ok hr7 ?_
        have hf2_7 : Fm (fun x => x = b1 ∨ x = b2) w2 w7 := (up (Fmf hf2_4 hf4_6)).trans hf7 (fun _ _ e => e) (fun _ _ e => .inl e)
        refine hjj _ _ ⟨rfl, ⟨setD D r.lsn (r, cs), by rw [plain_setD, hbs, hD], ?_, hM7⟩, (hM2'.keep hf4_6 (fun e => e)).keep hf7 (fun e => h12 e.symm), hf7.heap hw6' hn18.1, hrc0.keep (Fm.own hF2 hf2_7 (by rintro x (rfl | rfl) <;> (have := hF2.size; omega))), hf2_7⟩
        intro p hp
        rcases mem_setD hp with h | rfl
        · exact hDr _ h
        · exact hrc0
  · have hie : i = rs.length := by omega
    subst hie
    have e1 : decide (((rs.length : Nat) : Int) < (rs.length : Int)) = false := by simp
    rw [List.take_length] at hD hM2
    simp only [Pu_some, extV_0, extV_1, extV_2, extV_3, nilV_ptr, nilV_fn, faV_ptr, lenV_sl, lenS_s, capV_sl, pickV_t, pickV_f, unV_not, unV_neg, isB_t, isB_f, isB_u, binV_add, binV_sub, binV_mul, binV_eql, binV_neq, binV_lss, binV_leq, binV_gtr, binV_geq, binV_seql, binV_sneq, binV_slss, binV_beql, binV_bneq, binV_peql, binV_pneq, add_add, add_none, Go.Al.add_zero, Nat.zero_add, Nat.add_zero, IfB_t, IfB_f, Gd_t, Gd_f, Ld_ptr, LdN_ptr, Option.isNone_some, Option.isNone_none, Option.isSome_some, Option.isSome_none, Bool.not_true, Bool.not_false, drew_cell, drew_heap, e1]
    exact hk w2 D hD hDr hM1 hM2 hf2

set_option maxHeartbeats 2000000 in
/-- The walk over who has lost. -/
theorem third_walk {w0 w : World} {v : Value} {rs : List Rc} (hv : SliceAs vRc w0 v rs) (hF0 : Fm (fun _ => False) w0 w) {b1 b2 g : Nat} {D : List (Int × RV)} (hD : plainD D = byM rs) (hDr : ∀ p ∈ D, RcAs w0 p.2.2 p.2.1) (hb1 : MapAt w b1 (Value.int .i64) rvv D) (hb2 : MapAt w b2 (Value.int .i64) (Value.int .i64) (lastM rs)) (hg0 : w0.heap.size ≤ g) (hn1 : g ≠ b1) (hn2 : g ≠ b2)
    {redo : Int} {h : Hd} (hg : FdAt w g redo h (.slice none 0 0) 0) {kv : Value} (hkv : CellsAt w kv (sortK (lastM rs)).length 1 ((sortK (lastM rs)).map iv)) (hkn : ∀ x, blockOf kv = some x → x ≠ g) (hsz : (sortK (lastM rs)).length * 16 ≤ 140737488355328) (hrl : rs.length ≤ 1099511627776) {k : World → Prop}
    (hk : ∀ w' lv, FdAt w' g redo h lv (undoes rs) → w'.ownsRow w.heap.size 77 2 lv (losers rs).length (bcs (losers rs)) → Fm (· = g) w w' → k w') :
    (Pu (lenV kv) fun t152_496 =>
      ∃ (I_497 : List Value → World → Prop) (m_498 : List Value → World → Nat), I_497 [(Value.int IntKind.i64 0)] w ∧
      ∀ (g_528 : Fr) (w_527 : World), ∀ t153_501 : Value, I_497 [t153_501] w_527 →
        (Pu (binV (TypeDesc.int IntKind.i64) .lss t153_501 t152_496) fun t154_529 =>
        IfB t154_529
          (Pu (ixV 1 kv t153_501) fun t155_530 =>
        Ld w_527 t155_530 fun t156_531 w_532 =>
        Pu (faV 4 (pv g)) fun t157_533 =>
        Ld w_532 t157_533 fun t158_534 w_535 =>
        RunS Try.prog (Instr.lookup 140 (Value.map (some b2)) t156_531 false) w_535 fun t162_536 w_537 =>
        RunS Try.prog (Instr.build 77 #[(0, t156_531), (1, t162_536)]) w_537 fun t163_538 w_539 =>
        RunS Try.prog (Instr.buildSlice 67 1 #[(0, t163_538)]) w_539 fun t164_540 w_541 =>
        RunS Try.prog (Builtin.append_ #[67, 67] 67 #[t158_534, t164_540]) w_541 fun t165_542 w_543 =>
        Pu (faV 4 (pv g)) fun t166_544 =>
        St 1 w_543 t166_544 t165_542 fun u_545 w_546 =>
        ∃ C_547 : World → Prop, C_547 (World.drew w_546) ∧
        (Pu (faV 5 (pv g)) fun t167_548 =>
        ∃ t168_549, (∀ w_550, C_547 w_550 → Ld w_550 t167_548 fun t168_551 w_552 =>
        t168_551 = t168_549 ∧ w_552 = w_550) ∧
        (RunS Try.prog (Instr.lookup 140 (Value.map (some b2)) t156_531 false) (World.drew w_546) fun t172_553 w_554 =>
        w_554 = (World.drew w_546) ∧
        Pu (lenV v) fun t174_555 =>
        Cl Try.prog 80 [(Value.map (some b1)), t172_553, t174_555] (World.drew w_546) fun t175_556 w_557 =>
        C_547 w_557 ∧
        (Pu (binV (TypeDesc.int IntKind.i64) .add t168_549 t175_556) fun t176_558 =>
        Pu (faV 5 (pv g)) fun t177_559 =>
        St 1 w_557 t177_559 t176_558 fun u_560 w_561 =>
        Pu (binV (TypeDesc.int IntKind.i64) .add t153_501 (Value.int IntKind.i64 1)) fun t178_562 =>
        I_497 [t178_562] w_561 ∧ m_498 [t178_562] w_561 < m_498 [t153_501] w_527))))
          (k w_527))) := by
  have hgl := lt_of_heap hg
  have hl1 := hb1.lt
  have hl2 := hb2.lt
  generalize hks : sortK (lastM rs) = ks at hkv hsz
  have hlos : losers rs = ks.map fun x => (x, lastOf rs x) := by rw [losers, hks]
  have hund : undoes rs = ks.foldl (ustep rs) 0 := by rw [undoes, hks]
  rw [hlos, hund] at hk
  have hklt := hkv.lt
  unfold maxLen at hklt
  have hrlen := hv.len
  unfold maxLen at hrlen
  simp only [Pu_some, extV_0, extV_1, extV_2, extV_3, nilV_ptr, nilV_fn, faV_ptr, lenV_sl, lenS_s, capV_sl, pickV_t, pickV_f, unV_not, unV_neg, isB_t, isB_f, isB_u, binV_add, binV_sub, binV_mul, binV_eql, binV_neq, binV_lss, binV_leq, binV_gtr, binV_geq, binV_seql, binV_sneq, binV_slss, binV_beql, binV_bneq, binV_peql, binV_pneq, add_add, add_none, Go.Al.add_zero, Nat.zero_add, Nat.add_zero, IfB_t, IfB_f, Gd_t, Gd_f, Ld_ptr, LdN_ptr, Option.isNone_some, Option.isNone_none, Option.isSome_some, Option.isSome_none, Bool.not_true, Bool.not_false, drew_cell, drew_heap, hkv.lenV]
  refine ⟨fun vs w2 => ∃ (i : Nat) (lv : Value), vs = [iv i] ∧ i ≤ ks.length ∧ FdAt w2 g redo h lv ((ks.take i).foldl (ustep rs) 0) ∧ w2.ownsRow w.heap.size 77 2 lv i (bcs ((ks.take i).map fun x => (x, lastOf rs x))) ∧ Fm (· = g) w w2, fun vs _ => (ks.length - nth vs 0).toNat, ⟨0, _, rfl, by omega, hg, ?_, Fm.refl _ _⟩, ?_⟩
  · exact World.ownsRow_nil _ _ _ _
  rintro _ w2 iv_ ⟨i, lv, hvs, hi, hg2, ho2, hf2⟩
  cases hvs
  by_cases hlt : i < ks.length
  · have e1 : decide ((i : Int) < (ks.length : Int)) = true := by rw [decide_eq_true_eq]; omega
    have e2 : IntKind.i64.wrap ((i : Int) + 1) = ((i + 1 : Nat) : Int) := by rw [wrap_id] <;> omega
    have hx : ks[i]? = some ks[i] := List.getElem?_eq_getElem hlt
    generalize ks[i] = x at hx
    have hu := foldl_take (ustep rs) 0 hx
    generalize (ks.take i).foldl (ustep rs) 0 = U at hg2 hu
    have hrow : bcs ((ks.take (i + 1)).map fun x => (x, lastOf rs x)) = bcs ((ks.take i).map fun x => (x, lastOf rs x)) ++ [iv x, iv (lastOf rs x)] := by
      rw [List.take_add_one, hx, Option.toList_some, List.map_append, bcs_app]; rfl
    obtain ⟨ad, hix, hbl, hc⟩ := hkv.at1 (i := i) (x := iv x) (by rw [List.getElem?_map, hx]; rfl) .i64
    have hc2 := hf2.cell' hc (hkn _ hbl)
    have hM1 := hb1.keep hf2 (fun e => hn1 e.symm)
    have hM2 := hb2.keep hf2 (fun e => hn2 e.symm)
    have hlk : ∀ w3 : World, MapAt w3 b2 (Value.int .i64) (Value.int .i64) (lastM rs) → (Instr.lookup 140 (Value.map (some b2)) (Value.int .i64 x) false).run Try.prog w3 = .ok (iv (lastOf rs x)) w3 := by
      intro w3 hM3
      rw [lookup_run K140 hM3 x false (z3 w3)]
      unfold lastOf
      cases getD (lastM rs) x <;> rfl
    simp only [Pu_some, extV_0, extV_1, extV_2, extV_3, nilV_ptr, nilV_fn, faV_ptr, lenV_sl, lenS_s, capV_sl, pickV_t, pickV_f, unV_not, unV_neg, isB_t, isB_f, isB_u, binV_add, binV_sub, binV_mul, binV_eql, binV_neq, binV_lss, binV_leq, binV_gtr, binV_geq, binV_seql, binV_sneq, binV_slss, binV_beql, binV_bneq, binV_peql, binV_pneq, add_add, add_none, Go.Al.add_zero, Nat.zero_add, Nat.add_zero, IfB_t, IfB_f, Gd_t, Gd_f, Ld_ptr, LdN_ptr, Option.isNone_some, Option.isNone_none, Option.isSome_some, Option.isSome_none, Bool.not_true, Bool.not_false, drew_cell, drew_heap, e1, hix, hc2, hg2.c4]
    refine RunS_ok (hlk _ hM2) ?_
    refine RunS_ok (bld77 _ _ _) ?_
    refine append_el E67 (by omega) 67 (cs := [iv x, iv (lastOf rs x)]) rfl (bs67 _ _ _) (by intro u hu; simp at hu; rcases hu with rfl | rfl <;> rfl) ho2 (by unfold maxLen; omega) (by omega) hf2.size ?_
    intro lv3 w3 ho3 _ hf3
    rw [← hrow] at ho3
    have hf23 : Fm (· = g) w w3 := hf2.trans hf3 (fun _ _ e => e) (fun y hy e => by omega)
    have hg3 := hg2.keep hf3 (fun e => by omega)
    try simp only [Pu_some, extV_0, extV_1, extV_2, extV_3, nilV_ptr, nilV_fn, faV_ptr, lenV_sl, lenS_s, capV_sl, pickV_t, pickV_f, unV_not, unV_neg, isB_t, isB_f, isB_u, binV_add, binV_sub, binV_mul, binV_eql, binV_neq, binV_lss, binV_leq, binV_gtr, binV_geq, binV_seql, binV_sneq, binV_slss, binV_beql, binV_bneq, binV_peql, binV_pneq, add_add, add_none, Go.Al.add_zero, Nat.zero_add, Nat.add_zero, IfB_t, IfB_f, Gd_t, Gd_f, Ld_ptr, LdN_ptr, Option.isNone_some, Option.isNone_none, Option.isSome_some, Option.isSome_none, Bool.not_true, Bool.not_false, drew_cell, drew_heap]
    refine St_blk hg3 (by show 4 < 6; decide) (own_one ho3) ?_
    intro w4 hw4 hs4 hf4
    replace hw4 : FdAt w4 g redo h lv3 U := hw4
    have hf24 : Fm (· = g) w w4 := hf23.trans hf4 (fun _ _ e => e) (fun _ _ e => e)
    have ho4 := own_keep ho3 hf4 (fun y h1 h2 h3 e => by omega)
    have hf5 := Fm.drew (fun _ => False) w4
    have hw5 : FdAt w4.drew g redo h lv3 U := hw4.keep hf5 (fun e => e)
    have hM25 := (hb2.keep hf24 (fun e => hn2 e.symm)).keep hf5 (fun e => e)
    have hM15 := (hb1.keep hf24 (fun e => hn1 e.symm)).keep hf5 (fun e => e)
    have ho5 := own_keep ho4 hf5 (fun _ _ _ _ e => e)
    have hf25 : Fm (· = g) w w4.drew := hf24.trans hf5 (fun _ _ e => e) (fun _ _ e => e.elim)
    generalize w4.drew = w5 at hw5 hM25 hM15 ho5 hf25
    have hF5 : Fm (fun _ => False) w0 w5 := Fm.own hF0 hf25 (by rintro y rfl; omega)
    refine ⟨fun w => w.cell? ⟨g, 5, none⟩ = some (iv U), hw5.c5, ?_⟩
    simp only [Pu_some, extV_0, extV_1, extV_2, extV_3, nilV_ptr, nilV_fn, faV_ptr, lenV_sl, lenS_s, capV_sl, pickV_t, pickV_f, unV_not, unV_neg, isB_t, isB_f, isB_u, binV_add, binV_sub, binV_mul, binV_eql, binV_neq, binV_lss, binV_leq, binV_gtr, binV_geq, binV_seql, binV_sneq, binV_slss, binV_beql, binV_bneq, binV_peql, binV_pneq, add_add, add_none, Go.Al.add_zero, Nat.zero_add, Nat.add_zero, IfB_t, IfB_f, Gd_t, Gd_f, Ld_ptr, LdN_ptr, Option.isNone_some, Option.isNone_none, Option.isSome_some, Option.isSome_none, Bool.not_true, Bool.not_false, drew_cell, drew_heap]
    refine ⟨iv U, fun w6 h6 => ?_, ?_⟩
    · simp only [Pu_some, extV_0, extV_1, extV_2, extV_3, nilV_ptr, nilV_fn, faV_ptr, lenV_sl, lenS_s, capV_sl, pickV_t, pickV_f, unV_not, unV_neg, isB_t, isB_f, isB_u, binV_add, binV_sub, binV_mul, binV_eql, binV_neq, binV_lss, binV_leq, binV_gtr, binV_geq, binV_seql, binV_sneq, binV_slss, binV_beql, binV_bneq, binV_peql, binV_pneq, add_add, add_none, Go.Al.add_zero, Nat.zero_add, Nat.add_zero, IfB_t, IfB_f, Gd_t, Gd_f, Ld_ptr, LdN_ptr, Option.isNone_some, Option.isNone_none, Option.isSome_some, Option.isSome_none, Bool.not_true, Bool.not_false, drew_cell, drew_heap, h6]
      exact ⟨(by trivial), (by trivial)⟩
    refine RunS_ok (hlk _ hM25) ⟨rfl, ?_⟩
    simp only [Pu_some, extV_0, extV_1, extV_2, extV_3, nilV_ptr, nilV_fn, faV_ptr, lenV_sl, lenS_s, capV_sl, pickV_t, pickV_f, unV_not, unV_neg, isB_t, isB_f, isB_u, binV_add, binV_sub, binV_mul, binV_eql, binV_neq, binV_lss, binV_leq, binV_gtr, binV_geq, binV_seql, binV_sneq, binV_slss, binV_beql, binV_bneq, binV_peql, binV_pneq, add_add, add_none, Go.Al.add_zero, Nat.zero_add, Nat.add_zero, IfB_t, IfB_f, Gd_t, Gd_f, Ld_ptr, LdN_ptr, Option.isNone_some, Option.isNone_none, Option.isSome_some, Option.isSome_none, Bool.not_true, Bool.not_false, drew_cell, drew_heap, hv.lenV]
    refine (left_spec hM15 (fun p hp => (hDr p hp).keep hF5) (lastOf rs x) rs.length (by omega)).mono ?_
    rintro _ w6 ⟨rfl, hf6⟩
    have hw6 := hw5.keep hf6 (fun e => e)
    refine ⟨hw6.c5, ?_⟩
    rw [hD]
    try simp only [Pu_some, extV_0, extV_1, extV_2, extV_3, nilV_ptr, nilV_fn, faV_ptr, lenV_sl, lenS_s, capV_sl, pickV_t, pickV_f, unV_not, unV_neg, isB_t, isB_f, isB_u, binV_add, binV_sub, binV_mul, binV_eql, binV_neq, binV_lss, binV_leq, binV_gtr, binV_geq, binV_seql, binV_sneq, binV_slss, binV_beql, binV_bneq, binV_peql, binV_pneq, add_add, add_none, Go.Al.add_zero, Nat.zero_add, Nat.add_zero, IfB_t, IfB_f, Gd_t, Gd_f, Ld_ptr, LdN_ptr, Option.isNone_some, Option.isNone_none, Option.isSome_some, Option.isSome_none, Bool.not_true, Bool.not_false, drew_cell, drew_heap]
    refine St_blk hw6 (by show 5 < 6; decide) rfl ?_
    intro w7 hw7 hs7 hf7
    replace hw7 : FdAt w7 g redo h lv3 (ustep rs U x) := hw7
    simp only [Pu_some, extV_0, extV_1, extV_2, extV_3, nilV_ptr, nilV_fn, faV_ptr, lenV_sl, lenS_s, capV_sl, pickV_t, pickV_f, unV_not, unV_neg, isB_t, isB_f, isB_u, binV_add, binV_sub, binV_mul, binV_eql, binV_neq, binV_lss, binV_leq, binV_gtr, binV_geq, binV_seql, binV_sneq, binV_slss, binV_beql, binV_bneq, binV_peql, binV_pneq, add_add, add_none, Go.Al.add_zero, Nat.zero_add, Nat.add_zero, IfB_t, IfB_f, Gd_t, Gd_f, Ld_ptr, LdN_ptr, Option.isNone_some, Option.isNone_none, Option.isSome_some, Option.isSome_none, Bool.not_true, Bool.not_false, drew_cell, drew_heap, e2]
    refine ⟨⟨i + 1, lv3, rfl, by omega, by rw [hu]; exact hw7, own_keep (own_keep ho5 hf6 (fun _ _ _ _ e => e)) hf7 (fun y h1 h2 h3 e => by omega), (hf25.trans hf6 (fun _ _ e => e) (fun _ _ e => e.elim)).trans hf7 (fun _ _ e => e) (fun _ _ e => e)⟩, by simp only [nth_0]; omega⟩
  · have hie : i = ks.length := by omega
    subst hie
    have e1 : decide (((ks.length : Nat) : Int) < (ks.length : Int)) = false := by simp
    rw [List.take_length] at hg2 ho2
    simp only [Pu_some, extV_0, extV_1, extV_2, extV_3, nilV_ptr, nilV_fn, faV_ptr, lenV_sl, lenS_s, capV_sl, pickV_t, pickV_f, unV_not, unV_neg, isB_t, isB_f, isB_u, binV_add, binV_sub, binV_mul, binV_eql, binV_neq, binV_lss, binV_leq, binV_gtr, binV_geq, binV_seql, binV_sneq, binV_slss, binV_beql, binV_bneq, binV_peql, binV_pneq, add_add, add_none, Go.Al.add_zero, Nat.zero_add, Nat.add_zero, IfB_t, IfB_f, Gd_t, Gd_f, Ld_ptr, LdN_ptr, Option.isNone_some, Option.isNone_none, Option.isSome_some, Option.isSome_none, Bool.not_true, Bool.not_false, drew_cell, drew_heap, e1]
    exact hk w2 lv hg2 (by rw [List.length_map]; exact ho2) hf2

end Go.Proofs.Ythgdinjgdjiknaa
