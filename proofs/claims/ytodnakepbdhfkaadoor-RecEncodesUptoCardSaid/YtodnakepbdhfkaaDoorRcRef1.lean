/- A record's bytes, by the document: numbers, texts, bounds. -/
import Derived.Test.YtodnakepbdhfkaaDoorRcEnc2
import Derived.Test.YtodnakepbdhfkaaDoorPgREnc
import Derived.Test.YtodnakepbdhfkaaDoorAlOut
namespace Go.Proofs.YtodnakepbdhfkaaDoor
open Go.Al Go.Proofs
set_option linter.unusedVariables false
set_option linter.unusedSimpArgs false
set_option linter.unusedSectionVars false
set_option maxRecDepth 100000

theorem within_spec (w : World) (n : Int) : Cl Tryd.prog 97 [iv n] w fun v w' => v = .bool (!badN n) ∧ w' = w := by
  refine c97 ?_; unfold T97
  simp only [RS0, RS1, RS2, RS3, RS4, RS5]
  cases h1 : decide (0 ≤ n) with
  | true =>
    rw [decide_eq_true_eq] at h1
    have e1 : decide (n < 0) = false := by rw [decide_eq_false_iff_not]; omega
    have e2 : decide (n ≤ 4611686018427387904) = !decide (4611686018427387904 < n) := by
      rw [← decide_not, decide_eq_decide]; omega
    unfold badN
    rw [e1]
    simp only [RS0, RS1, RS2, RS3, RS4, RS5, e2, Bool.false_or]
    exact ⟨(by trivial), (by trivial)⟩
  | false =>
    rw [decide_eq_false_iff_not] at h1
    have e1 : decide (n < 0) = true := by rw [decide_eq_true_eq]; omega
    unfold badN
    rw [e1]
    simp only [RS0, RS1, RS2, RS3, RS4, RS5, Bool.true_or]
    exact ⟨(by trivial), (by trivial)⟩
theorem lists_spec {w : World} {v : Value} {L : List Int} (h : CellsAt w v L.length 1 (L.map iv)) : Cl Tryd.prog 96 [v] w fun u w' => u = .bool (!L.any badN) ∧ w' = w := by
  have hlt := h.lt
  unfold maxLen at hlt
  refine c96 ?_; unfold T96
  refine ⟨fun vs w2 => ∃ i : Nat, vs = [iv i] ∧ i ≤ L.length ∧ (L.take i).any badN = false ∧ w2 = w, fun vs _ => (L.length - nth vs 0).toNat, ⟨0, rfl, by omega, rfl, rfl⟩, ?_⟩
  rintro _ w2 ivv ⟨i, hvs, hi, hno, rfl⟩
  cases hvs
  by_cases hl : i < L.length
  · have e1 : decide ((i : Int) < (L.length : Int)) = true := by rw [decide_eq_true_eq]; omega
    have e2 : IntKind.i64.wrap ((i : Int) + 1) = ((i + 1 : Nat) : Int) := by rw [wrap_id] <;> omega
    have hx : L[i]? = some L[i] := List.getElem?_eq_getElem hl
    generalize L[i] = n at hx
    obtain ⟨ad, hix, _, hc⟩ := h.at1 (i := i) (x := iv n) (by rw [List.getElem?_map, hx]; rfl) .i64
    simp only [RS0, RS1, RS2, RS3, RS4, RS5, h.lenV, e1, hix, hc]
    refine (within_spec w2 n).mono ?_
    rintro _ w3 ⟨rfl, rfl⟩
    cases hb : badN n with
    | true =>
      simp only [RS0, RS1, RS2, RS3, RS4, RS5]
      refine ⟨?_, (by trivial)⟩
      rw [List.any_eq_true.2 ⟨n, List.mem_of_getElem? hx, hb⟩]
      rfl
    | false =>
      simp only [RS0, RS1, RS2, RS3, RS4, RS5, e2]
      refine ⟨⟨i + 1, rfl, by omega, ?_, (by trivial)⟩, by simp only [nth_0]; omega⟩
      rw [List.take_add_one, hx, List.any_append, hno]
      simp [hb]
  · have hie : i = L.length := by omega
    subst hie
    have e1 : decide (((L.length : Nat) : Int) < (L.length : Int)) = false := by simp
    rw [List.take_length] at hno
    simp only [RS0, RS1, RS2, RS3, RS4, RS5, h.lenV, e1]
    exact ⟨by rw [hno]; rfl, (by trivial)⟩

set_option maxHeartbeats 1000000 in
theorem dnum_spec {w : World} {v : Value} {ns : List Int} (hns : CellsAt w v ns.length 1 (ns.map iv)) (hin : ∀ n ∈ ns, n ≤ 9223372036854775807) (hl : ns.length ≤ 1000000000) :
    Cl Tryd.prog 93 [v] w fun u w' => u = stv (numsB ns) ∧ Fm (fun _ => False) w w' := by
  refine c93 ?_; unfold T93
  refine ⟨fun vs w2 => ∃ (k : Nat) (o : Value), vs = [o, iv k] ∧ k ≤ ns.length ∧ w2.ownsRow w.heap.size 5 1 o (numsB (ns.take k)).length (bc (numsB (ns.take k))) ∧ Fm (fun _ => False) w w2, fun vs _ => (ns.length - nth vs 1).toNat, ⟨0, _, rfl, by omega, World.ownsRow_nil _ _ _ _, Fm.refl _ _⟩, ?_⟩
  rintro _ w2 ov ik ⟨k, o, hvs, hk, h2, hf2⟩
  cases hvs
  by_cases hlt : k < ns.length
  · have e1 : decide ((k : Int) < (ns.length : Int)) = true := by rw [decide_eq_true_eq]; omega
    have hx : ns[k]? = some ns[k] := List.getElem?_eq_getElem hlt
    have hmem := List.getElem_mem hlt
    have hxin := hin _ hmem
    have hel := encI_len hxin
    have hpre := numsB_len (l := ns.take k) (fun n hn => hin n (List.mem_of_mem_take hn))
    rw [List.length_take, Nat.min_eq_left hk] at hpre
    generalize ns[k] = n at hx hxin hel
    obtain ⟨ad, hix, _, hc⟩ := (hns.keep hf2 (fun _ _ e => e)).at1 (i := k) (x := iv n) (by rw [List.getElem?_map, hx]; rfl) .i64
    have z3 : max2V (iv n) (iv 0) = some (iv (max n 0)) := by
      show some (iv (if (0 : Int) > n then 0 else n)) = _
      congr 2
      split <;> omega
    have hlenV := hns.lenV
    simp only [RS0, RS1, RS2, RS3, RS4, RS5, hlenV, e1, hix, hc, foldV0, foldV, z3, Option.bind_some]
    obtain ⟨c0, hc0⟩ := Int.eq_ofNat_of_zero_le (show 0 ≤ max n 0 by omega)
    have henc : encI n = encN c0 := by unfold encI; rw [hc0]; rfl
    rw [hc0]
    have hpl : (numsB (ns.take k)).length ≤ 9000000000 := by omega
    rw [henc] at hel
    have hstep : numsB (ns.take (k + 1)) = numsB (ns.take k) ++ encN c0 := by
      rw [List.take_add_one, hx, numsB_app]
      show numsB (ns.take k) ++ numsB [n] = _
      rw [numsB1, henc]
    generalize numsB (ns.take k) = P at h2 hpl hstep
    refine ⟨fun vs w3 => ∃ (c : Nat) (Q : Bs) (o : Value), vs = [o, iv c] ∧ c ≤ 9223372036854775807 ∧ w3.ownsRow w.heap.size 5 1 o Q.length (bc Q) ∧ Q ++ encN c = P ++ encN c0 ∧ Fm (fun _ => False) w w3, fun vs _ => (nth vs 1).toNat, ⟨c0, P, _, rfl, by omega, h2, rfl, hf2⟩, ?_⟩
    rintro _ w3 ob ic ⟨c, Q, o, hvs, hcm, h3, hQ, hf3⟩
    cases hvs
    have hz3 := hf3.size
    have hQl : Q.length ≤ 10000000000 := by
      have := congrArg List.length hQ
      rw [List.length_append, List.length_append] at this
      omega
    by_cases hbig : 127 < c
    · have e2 : decide ((128 : Int) ≤ (c : Int)) = true := by rw [decide_eq_true_eq]; omega
      have e3 := rem_nat (TypeDesc.int IntKind.i64) (n := c) (m := 128) (by decide) hcm (b := 128) rfl
      have e4 := quo_nat (TypeDesc.int IntKind.i64) (n := c) (m := 128) (by decide) hcm (b := 128) rfl
      have e5 : IntKind.i64.wrap (((c % 128 : Nat) : Int) + 128) = ((c % 128 + 128 : Nat) : Int) := by rw [wrap_id] <;> omega
      have e6 : cvI .u8 (iv ((c % 128 + 128 : Nat) : Int)) = some (.int .u8 (((UInt8.ofNat (c % 128 + 128)).toNat : Nat) : Int)) := by
        show some (Value.int .u8 (IntKind.u8.wrap ((c % 128 + 128 : Nat) : Int))) = _
        rw [u8_wrap_nat, Nat.mod_eq_of_lt (by omega), u8_ofNat (by omega)]
      simp only [RS0, RS1, RS2, RS3, RS4, RS5, e2, e3, e5, e6]
      refine append_elF E38w (by omega) 38 (cs := [.int .u8 (UInt8.ofNat (c % 128 + 128)).toNat]) rfl (bs38w _ _) (by intro u hu; simp at hu; subst hu; rfl) h3 (by unfold maxLen; omega) (by omega) hz3 ?_
      intro v' w4 ho4 hcase
      have hF4 : Fm (fun _ => False) w w4 := by
        rcases hcase with ⟨g, k1, k2, k3⟩ | ⟨g, k1, k2, k3⟩
        · exact Fm.own hf3 k3 (by rintro y rfl; exact (own_lt h3 y k1).1)
        · exact Fmf hf3 k3
      rw [e4, Pu_some]
      refine ⟨⟨c / 128, Q ++ [UInt8.ofNat (c % 128 + 128)], v', rfl, by omega, ?_, ?_, hF4⟩, by simp only [nth_1]; omega⟩
      · rw [List.length_append, bc_append]; exact ho4
      · rw [← hQ, encN_big hbig, List.append_assoc]; rfl
    · have e2 : decide ((128 : Int) ≤ (c : Int)) = false := by rw [decide_eq_false_iff_not]; omega
      have e6 : IntKind.i64.wrap ((k : Int) + 1) = ((k + 1 : Nat) : Int) := by rw [wrap_id] <;> omega
      have e3 : cvI .u8 (iv c) = some (.int .u8 (((UInt8.ofNat c).toNat : Nat) : Int)) := by
        show some (Value.int .u8 (IntKind.u8.wrap (c : Int))) = _
        rw [u8_wrap_nat, Nat.mod_eq_of_lt (by omega), u8_ofNat (by omega)]
      simp only [RS0, RS1, RS2, RS3, RS4, RS5, e2, e3]
      refine append_elF E38w (by omega) 38 (cs := [.int .u8 (UInt8.ofNat c).toNat]) rfl (bs38w _ _) (by intro u hu; simp at hu; subst hu; rfl) h3 (by unfold maxLen; omega) (by omega) hz3 ?_
      intro v' w4 ho4 hcase
      have hF4 : Fm (fun _ => False) w w4 := by
        rcases hcase with ⟨g, k1, k2, k3⟩ | ⟨g, k1, k2, k3⟩
        · exact Fm.own hf3 k3 (by rintro y rfl; exact (own_lt h3 y k1).1)
        · exact Fmf hf3 k3
      rw [e6]
      refine ⟨⟨k + 1, v', rfl, by omega, ?_, hF4⟩, by simp only [nth_1]; omega⟩
      rw [hstep, ← hQ, encN_small (by omega), List.length_append, bc_append]
      exact ho4
  · have hke : k = ns.length := by omega
    subst hke
    have e1 : decide (((ns.length : Nat) : Int) < (ns.length : Int)) = false := by simp
    rw [List.take_length] at h2
    have hlenV := hns.lenV
    simp only [RS0, RS1, RS2, RS3, RS4, RS5, hlenV, e1]
    exact RunS_ok (conv_own B38 h2) ⟨rfl, hf2⟩
/-- A literal of numbers, laid. -/
theorem rnum_lit {w : World} {n : Nat} {ns : List Int} {items : Array (Nat × Value)} (hb : (Instr.buildSlice 47 n items).run Tryd.prog w = .ok (.slice (some ⟨w.heap.size, 0, none⟩) n n) (w.alloc (.cells (ns.map iv).toArray 3))) (hn : ns.length = n) (hin : ∀ n ∈ ns, n ≤ 9223372036854775807) (hl : n ≤ 1000) {k : KV}
    (hk : ∀ w', Fm (fun _ => False) w w' → k (stv (numsB ns)) w') : RunS Tryd.prog (Instr.buildSlice 47 n items) w fun t w1 => Cl Tryd.prog 93 [t] w1 k := by
  refine RunS_ok hb ?_
  subst hn
  have hf := Fm.alloc (fun _ => False) w (.cells (ns.map iv).toArray 3)
  have hnew := own_new (w := w) (e := 3) (sz := 1) (base := w.heap.size) (n := ns.length) (l := ns.map iv) (by simp) (Nat.le_refl _) (by unfold maxLen; omega)
  refine (dnum_spec (CellsAt.of_own hnew) hin (by omega)).mono ?_
  rintro _ w2 ⟨rfl, hf2⟩
  exact hk w2 (Fmf hf hf2)
theorem dtext_spec (w : World) (s : Bs) (hs : s.length ≤ 1000000000) : Cl Tryd.prog 94 [stv s] w fun v w' => v = stv (txtB s) ∧ Fm (fun _ => False) w w' := by
  refine c94 ?_; unfold T94
  simp only [RS0, RS1, RS2, RS3, RS4, RS5, str_size]
  refine rnum_lit (bs47_1 _ _) rfl (by intro n hn; simp at hn; omega) (by omega) ?_
  intro w2 hf2
  rw [numsB1]
  have := encI_len (n := s.length) (by omega)
  rw [sadd (by omega)]
  try simp only [RS0, RS1, RS2, RS3, RS4, RS5]
  exact ⟨rfl, hf2⟩
theorem bare_spec {w : World} {cs : Array Value} {p : Pg} (h : PgAs w cs p) (hl : (pEnc p).1.length ≤ 1000000) : Cl Tryd.prog 95 [.agg cs] w fun v w' => v = stv (trimZ (pEnc p).1) ∧ Fm (fun _ => False) w w' := by
  have hsz : cs.size = 6 := by obtain ⟨v, rfl, _⟩ := h.ex; rfl
  refine c95 ?_; unfold T95
  refine New_any ?_
  intro x1 w1 hx1 hs1 hw1 hf1
  simp only [RS0, RS1, RS2, RS3, RS4, RS5, cellsV_blk hw1 hsz]
  refine (rencode_spec (h.keep hf1)).mono ?_
  rintro _ w2 ⟨rfl, hf2⟩
  have he : encR p = .tuple #[stv (pEnc p).1, iv (pErr p)] := by unfold encR; rw [pEnc_err]
  rw [he]
  generalize (pEnc p).1 = s at hl
  simp only [RS0, RS1, RS2, RS3, RS4, RS5]
  refine ⟨fun vs w3 => ∃ t : Bs, vs = [stv t] ∧ t.length ≤ s.length ∧ trimZ t = trimZ s ∧ w3 = w2, fun vs _ => match vs with
    | [.string b] => b.size
    | _ => 0, ⟨s, rfl, Nat.le_refl _, rfl, rfl⟩, ?_⟩
  rintro _ w3 tv ⟨t, hvs, hlt, htr, rfl⟩
  cases hvs
  simp only [RS0, RS1, RS2, RS3, RS4, RS5, str_size]
  by_cases h0 : 0 < t.length
  · have d1 : decide ((0 : Int) < (t.length : Int)) = true := by rw [decide_eq_true_eq]; omega
    have e5 : IntKind.i64.wrap ((t.length : Int) - 1) = ((t.length - 1 : Nat) : Int) := by rw [wrap_id] <;> omega
    have hx : t[t.length - 1]? = some t[t.length - 1] := List.getElem?_eq_getElem (by omega)
    generalize t[t.length - 1] = b at hx
    have hlast := trimZ_last hx
    have e6 := ixS_str hx .i64
    have e7 : ((b.toNat : Int) == 0) = decide (b = 0) := by
      rw [beq_dec, decide_eq_decide]
      constructor
      · intro e
        exact UInt8.toNat_inj.1 (by simpa using (show b.toNat = 0 by omega))
      · rintro rfl; rfl
    have e8 := slS_hi (l := t) (i := t.length - 1) (by omega) .i64
    simp only [RS0, RS1, RS2, RS3, RS4, RS5, d1, str_size, e5, e6, e7]
    cases hb : decide (b = 0) with
    | true =>
      rw [hb, cond_true] at hlast
      simp only [RS0, RS1, RS2, RS3, RS4, RS5, str_size, e5, e8]
      refine ⟨⟨t.take (t.length - 1), rfl, by rw [List.length_take]; omega, by rw [← hlast]; exact htr, (by trivial)⟩, ?_⟩
      simp only [str_size, List.length_take]; omega
    | false =>
      rw [hb, cond_false] at hlast
      simp only [RS0, RS1, RS2, RS3, RS4, RS5]
      exact ⟨by rw [← htr, hlast], Fmf hf1 hf2⟩
  · have ht0 : t = [] := List.eq_nil_of_length_eq_zero (by omega)
    subst ht0
    have d1 : decide ((0 : Int) < (([] : Bs).length : Int)) = false := by decide
    simp only [RS0, RS1, RS2, RS3, RS4, RS5, d1]
    exact ⟨by rw [← htr]; rfl, Fmf hf1 hf2⟩

end Go.Proofs.YtodnakepbdhfkaaDoor
