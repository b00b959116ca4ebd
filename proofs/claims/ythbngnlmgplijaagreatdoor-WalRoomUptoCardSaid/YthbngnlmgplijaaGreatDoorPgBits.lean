/- Package bits and the document's answer for it: sums, numbers as bytes. -/
import Derived.Test.YthbngnlmgplijaaGreatDoorCpsPR
import Derived.Test.YthbngnlmgplijaaGreatDoorAlNum2
import Derived.Test.YthbngnlmgplijaaGreatDoorBitsPure
import Derived.Test.YthbngnlmgplijaaGreatDoorAlView2
namespace Go.Proofs.YthbngnlmgplijaaGreatDoor
open Go.Al Go.Proofs
set_option linter.unusedVariables false
set_option linter.unusedSimpArgs false
set_option linter.unusedSectionVars false
set_option maxRecDepth 100000

abbrev pv (b : Nat) : Value := .pointer (some ⟨b, 0, none⟩)
theorem Fmf {a b c : World} (h : Fm (fun _ => False) a b) (k : Fm (fun _ => False) b c) : Fm (fun _ => False) a c := h.trans k (fun _ _ e => e) (fun _ _ e => e)
theorem Fm.own {S : Nat → Prop} {a b c : World} (h : Fm (fun _ => False) a b) (k : Fm S b c) (hS : ∀ x, S x → a.heap.size ≤ x) : Fm (fun _ => False) a c := h.trans k (fun _ _ e => e) (fun x hx e => by have := hS x e; omega)
abbrev In (n : Int) : Prop := -9223372036854775808 ≤ n ∧ n ≤ 9223372036854775807
theorem B38 : ByteT Tryz.prog 123 5 9 := byteT_of Tryz.underlying123 Tryz.underlying5 Tryz.underlying9 (by kernel_rfl)

theorem half_u32 {c : Nat} (hc : c < 2 ^ 32) : ∃ x y : Value, unV .neg (uv (c &&& 1)) = some x ∧ binV (TypeDesc.int IntKind.u32) .and (Value.int IntKind.u32 3988292384) x = some y ∧ binV (TypeDesc.int IntKind.u32) .xor (uv (c / 2)) y = some (uv (crcS c)) := by
  rw [Nat.and_one_is_mod]
  unfold crcS
  have h2 : c % 2 = 0 ∨ c % 2 = 1 := by omega
  rcases h2 with h2 | h2
  · rw [h2]
    exact ⟨uv 0, uv 0, rfl, rfl, by rw [xor_u32 _ (by omega) (by omega)]; rfl⟩
  · rw [h2, if_pos rfl]
    exact ⟨uv 4294967295, uv 3988292384, rfl, rfl, by rw [xor_u32 _ (by omega) (by omega)]⟩
theorem crcT_snoc : ∀ (k c : Nat), crcT (k + 1) c = crcS (crcT k c)
  | 0, c => rfl
  | k + 1, c => by rw [crcT, crcT_snoc k]; rfl
theorem turned_spec (w : World) {c : Nat} (hc : c < 2 ^ 32) : Cl Tryz.prog 147 [uv c] w fun r w' => r = uv (crcT 8 c) ∧ w' = w := by
  refine c147 ?_; unfold T147
  refine ⟨fun vs w2 => ∃ i : Nat, vs = [uv (crcT i c), iv i] ∧ i ≤ 8 ∧ w2 = w, fun vs _ => (8 - nth vs 1).toNat, ⟨0, rfl, by omega, rfl⟩, ?_⟩
  rintro _ w2 cv ivv ⟨i, hvs, hi, rfl⟩
  cases hvs
  have hl := crcT_lt i hc
  by_cases hlt : i < 8
  · have e1 : decide ((i : Int) < 8) = true := by rw [decide_eq_true_eq]; omega
    have e2 : IntKind.i64.wrap ((i : Int) + 1) = ((i + 1 : Nat) : Int) := by rw [wrap_id] <;> omega
    obtain ⟨x, y, h1, h2, h3⟩ := half_u32 hl
    have s1 : binV (TypeDesc.int IntKind.u32) .shr (uv (crcT i c)) (Value.int IntKind.u64 1) = some (uv (crcT i c / 2)) := shr_u32 _ (k := 1) (by omega) .u64 rfl
    have a1 : binV (TypeDesc.int IntKind.u32) .and (uv (crcT i c)) (Value.int IntKind.u32 1) = some (uv (crcT i c &&& 1)) := and_u32 _ hl (b := 1) (by omega)
    simp only [RS0, RS1, RS2, RS3, RS4, RS5, e1, s1, a1, h1, h2, h3, e2]
    exact ⟨⟨i + 1, by rw [crcT_snoc], by omega, (by trivial)⟩, by simp only [nth_1]; omega⟩
  · obtain rfl : i = 8 := by omega
    have e1 : decide (((8 : Nat) : Int) < 8) = false := by simp
    simp only [RS0, RS1, RS2, RS3, RS4, RS5, e1]
    exact ⟨(by trivial), (by trivial)⟩
theorem crcF_take {l : Bs} {i : Nat} {b : UInt8} (c : Nat) (h : l[i]? = some b) : crcF c (l.take (i + 1)) = crcB (crcF c (l.take i)) b := by
  unfold crcF
  rw [List.take_add_one, h, List.foldl_append]; rfl
theorem sum_spec (w : World) (l : Bs) (hl : l.length ≤ 9223372036854775806) : Cl Tryz.prog 80 [stv l] w fun r w' => r = uv (crc l) ∧ w' = w := by
  refine c80 ?_; unfold T80
  simp only [RS0, RS1, RS2, RS3, RS4, RS5, str_size]
  refine ⟨fun vs w2 => ∃ i : Nat, vs = [uv (crcF 4294967295 (l.take i)), iv i] ∧ i ≤ l.length ∧ w2 = w, fun vs _ => (l.length - nth vs 1).toNat, ⟨0, rfl, by omega, rfl⟩, ?_⟩
  rintro _ w2 cv ivv ⟨i, hvs, hi, rfl⟩
  cases hvs
  have hc := crcF_lt (l.take i) (c := 4294967295) (by omega)
  by_cases hlt : i < l.length
  · have e1 : decide ((i : Int) < (l.length : Int)) = true := by rw [decide_eq_true_eq]; omega
    have e2 : IntKind.i64.wrap ((i : Int) + 1) = ((i + 1 : Nat) : Int) := by rw [wrap_id] <;> omega
    have hx : l[i]? = some l[i] := List.getElem?_eq_getElem hlt
    generalize l[i] = b at hx
    have hst := crcF_take 4294967295 hx
    generalize crcF 4294967295 (l.take i) = c at hc hst
    rw [crcB_table] at hst
    have hb := b.toNat_lt
    have s1 : binV (TypeDesc.int IntKind.u32) .shr (uv c) (Value.int IntKind.u64 8) = some (uv (c / 256)) := shr_u32 _ (k := 8) (by omega) .u64 rfl
    have a1 : binV (TypeDesc.int IntKind.u32) .and (uv c) (Value.int IntKind.u32 255) = some (uv (c % 256)) := by
      have := and_u32 (TypeDesc.int IntKind.u32) hc (b := 255) (by omega)
      rw [show c &&& 255 = c % 256 from Nat.and_two_pow_sub_one_eq_mod c 8] at this; exact this
    have q1 : IntKind.u32.wrap (b.toNat : Int) = (b.toNat : Int) := wrap_u32 (by omega)
    have x1 := xor_u32 (TypeDesc.int IntKind.u32) (a := c % 256) (b := b.toNat) (by omega) (by omega)
    have hx2 : c % 256 ^^^ b.toNat < 2 ^ 32 := Nat.xor_lt_two_pow (by omega) (by omega)
    simp only [RS0, RS1, RS2, RS3, RS4, RS5, e1, s1, a1, ixS_str hx, cvI_int, q1, x1]
    refine (turned_spec w2 hx2).mono ?_
    rintro _ _ ⟨rfl, rfl⟩
    have x2 := xor_u32 (TypeDesc.int IntKind.u32) (a := c / 256) (b := crcT 8 (c % 256 ^^^ b.toNat)) (by omega) (crcT_lt 8 hx2)
    simp only [RS0, RS1, RS2, RS3, RS4, RS5, x2, e2]
    exact ⟨⟨i + 1, by rw [hst], by omega, (by trivial)⟩, by simp only [nth_1]; omega⟩
  · have hie : i = l.length := by omega
    subst hie
    have e1 : decide (((l.length : Nat) : Int) < (l.length : Int)) = false := by simp
    rw [List.take_length] at hc ⊢
    simp only [RS0, RS1, RS2, RS3, RS4, RS5, e1, not_u32 hc]
    exact ⟨(by trivial), (by trivial)⟩
/-- The document's sum. -/
theorem rsum_spec (w : World) (l : Bs) (hl : l.length ≤ 9223372036854775806) : Cl Tryz.prog 84 [stv l] w fun r w' => r = uv (crc l) ∧ w' = w := by
  refine c84 ?_; unfold T84
  refine ⟨fun vs w2 => ∃ i : Nat, vs = [uv (crcF 4294967295 (l.take i)), iv i] ∧ i ≤ l.length ∧ w2 = w, fun vs _ => (l.length - nth vs 1).toNat, ⟨0, rfl, by omega, rfl⟩, ?_⟩
  rintro _ w2 cv ivv ⟨i, hvs, hi, rfl⟩
  cases hvs
  have hc := crcF_lt (l.take i) (c := 4294967295) (by omega)
  by_cases hlt : i < l.length
  · have e1 : decide ((i : Int) < (l.length : Int)) = true := by rw [decide_eq_true_eq]; omega
    have e2 : IntKind.i64.wrap ((i : Int) + 1) = ((i + 1 : Nat) : Int) := by rw [wrap_id] <;> omega
    have hx : l[i]? = some l[i] := List.getElem?_eq_getElem hlt
    generalize l[i] = b at hx
    have hst := crcF_take 4294967295 hx
    generalize crcF 4294967295 (l.take i) = c at hc hst
    have hb := b.toNat_lt
    have q1 : IntKind.u32.wrap (b.toNat : Int) = (b.toNat : Int) := wrap_u32 (by omega)
    have x1 := xor_u32 (TypeDesc.int IntKind.u32) (a := c) (b := b.toNat) (by omega) (by omega)
    have hx2 := xor_byte hc b
    simp only [RS0, RS1, RS2, RS3, RS4, RS5, str_size, e1, ixS_str hx, cvI_int, q1, x1]
    refine ⟨fun vs w3 => ∃ j : Nat, vs = [uv (crcT j (c ^^^ b.toNat)), iv j] ∧ j ≤ 8 ∧ w3 = w2, fun vs _ => (8 - nth vs 1).toNat, ⟨0, rfl, by omega, rfl⟩, ?_⟩
    rintro _ w3 cv jv ⟨j, hvs, hj, rfl⟩
    cases hvs
    have hl2 := crcT_lt j hx2
    by_cases hj8 : j < 8
    · have f1 : decide ((j : Int) < 8) = true := by rw [decide_eq_true_eq]; omega
      have f2 : IntKind.i64.wrap ((j : Int) + 1) = ((j + 1 : Nat) : Int) := by rw [wrap_id] <;> omega
      have hsn := crcT_snoc j (c ^^^ b.toNat)
      generalize crcT j (c ^^^ b.toNat) = d at hl2 hsn
      simp only [RS0, RS1, RS2, RS3, RS4, RS5, f1]
      refine Jn_at (fun vs w4 => vs = [uv (crcS d)] ∧ w4 = w3) ?_ ?_
      · rintro _ w4 ⟨rfl, rfl⟩ _
        refine ⟨_, rfl, ?_⟩
        simp only [RS0, RS1, RS2, RS3, RS4, RS5, f2]
        exact ⟨⟨j + 1, by rw [hsn], by omega, (by trivial)⟩, by simp only [nth_1]; omega⟩
      · intro kk hkk
        unfold crcS at hkk
        have hd2 : d % 2 = 0 ∨ d % 2 = 1 := by omega
        simp only [RS0, RS1, RS2, RS3, RS4, RS5, rem_u32, quo_u32 _ hl2, beq_dec]
        rcases hd2 with h2 | h2
        · rw [if_neg (by omega), Nat.xor_zero] at hkk
          rw [show decide (((d % 2 : Nat) : Int) = 1) = false by rw [h2]; rfl]
          simp only [RS0, RS1, RS2, RS3, RS4, RS5]
          exact hkk _ _ ⟨rfl, rfl⟩
        · rw [if_pos h2] at hkk
          rw [show decide (((d % 2 : Nat) : Int) = 1) = true by rw [h2]; rfl]
          have x2 : binV (TypeDesc.int IntKind.u32) .xor (uv (d / 2)) (Value.int IntKind.u32 3988292384) = some (uv (d / 2 ^^^ 3988292384)) := xor_u32 _ (b := 3988292384) (by omega) (by omega)
          simp only [RS0, RS1, RS2, RS3, RS4, RS5, x2]
          exact hkk _ _ ⟨rfl, rfl⟩
    · obtain rfl : j = 8 := by omega
      have f1 : decide (((8 : Nat) : Int) < 8) = false := by simp
      simp only [RS0, RS1, RS2, RS3, RS4, RS5, f1, e2]
      exact ⟨⟨i + 1, by rw [hst]; rfl, by omega, (by trivial)⟩, by simp only [nth_1]; omega⟩
  · have hie : i = l.length := by omega
    subst hie
    have e1 : decide (((l.length : Nat) : Int) < (l.length : Int)) = false := by simp
    rw [List.take_length] at hc ⊢
    have x2 : binV (TypeDesc.int IntKind.u32) .xor (uv (crcF 4294967295 l)) (Value.int IntKind.u32 4294967295) = some (uv (crcF 4294967295 l ^^^ 4294967295)) := xor_u32 _ hc (b := 4294967295) (by omega)
    simp only [RS0, RS1, RS2, RS3, RS4, RS5, str_size, e1, x2]
    exact ⟨(by trivial), (by trivial)⟩

/-! ### Numbers as bytes -/
theorem take_set_one (l : Bs) {i : Nat} {b : UInt8} (h : l[i]? = some b) (n : Nat) (hn : i < n) : (l.take i ++ List.replicate (n - i) (0 : UInt8)).set i b = l.take (i + 1) ++ List.replicate (n - (i + 1)) (0 : UInt8) := by
  have hl := (List.getElem?_eq_some_iff.1 h).1
  rw [List.set_append_right _ _ (by rw [List.length_take]; omega), List.length_take, Nat.min_eq_left (by omega), Nat.sub_self]
  rw [show n - i = (n - (i + 1)) + 1 by omega, List.replicate_succ, List.set_cons_zero, List.take_add_one, h]
  simp
theorem big_spec (w : World) {n : Int} (hn : In n) (k : Int) : Cl Tryz.prog 115 [iv n, iv k] w fun r w' => r = stv (bigB n k) ∧ Fm (fun _ => False) w w' := by
  refine c115 ?_; unfold T115
  unfold bigB
  cases h1 : decide (k < 1) with
  | true =>
    simp only [RS0, RS1, RS2, RS3, RS4, RS5, h1, Bool.true_or, cond_true]
    exact ⟨(by trivial), Fm.refl _ _⟩
  | false =>
  cases h2 : decide (8 < k) with
  | true =>
    simp only [RS0, RS1, RS2, RS3, RS4, RS5, h1, h2, Bool.true_or, Bool.or_true, cond_true]
    exact ⟨(by trivial), Fm.refl _ _⟩
  | false =>
  cases h3 : decide (n < 0) with
  | true =>
    simp only [RS0, RS1, RS2, RS3, RS4, RS5, h1, h2, h3, Bool.true_or, Bool.or_true, cond_true]
    exact ⟨(by trivial), Fm.refl _ _⟩
  | false =>
  rw [decide_eq_false_iff_not] at h1 h2 h3
  obtain ⟨x, rfl⟩ := Int.eq_ofNat_of_zero_le (show 0 ≤ n by omega)
  obtain ⟨m, rfl⟩ := Int.eq_ofNat_of_zero_le (show 0 ≤ k by omega)
  have g1 : decide ((Int.ofNat m) < 1) = false := by rw [decide_eq_false_iff_not]; exact h1
  have g2 : decide (8 < (Int.ofNat m)) = false := by rw [decide_eq_false_iff_not]; exact h2
  have g3 : decide ((Int.ofNat x) < 0) = false := by rw [decide_eq_false_iff_not]; exact h3
  have hm : 1 ≤ m ∧ m ≤ 8 := by omega
  have hx : x ≤ 9223372036854775807 := by have := hn.2; omega
  have g1' : decide ((m : Int) < 1) = false := g1
  have g2' : decide (8 < (m : Int)) = false := g2
  have g3' : decide ((x : Int) < 0) = false := g3
  simp only [RS0, RS1, RS2, RS3, RS4, RS5, g1', g2', g3', Bool.or_false, cond_false, Int.toNat_natCast]
  refine RunS_ok (BRow.make B38 w m (by omega)) ?_
  have hb1 := alloc_new w (.cells (bc (List.replicate m 0)).toArray 5)
  have hf1 := Fm.alloc (fun _ => False) w (.cells (bc (List.replicate m 0)).toArray 5)
  have hg := Nat.le_refl w.heap.size
  generalize hge : w.heap.size = g at hb1
  generalize w.alloc (.cells (bc (List.replicate m 0)).toArray 5) = w1 at hb1 hf1
  replace hb1 : BRow w1 g 5 (List.replicate m 0) := hb1
  simp only [RS0, RS1, RS2, RS3, RS4, RS5]
  refine ⟨fun vs w2 => ∃ i : Nat, vs = [iv i] ∧ i ≤ m ∧ BRow w2 g 5 ((beN m x).take i ++ List.replicate (m - i) 0) ∧ Fm (fun _ => False) w w2, fun vs _ => (m - nth vs 0).toNat, ⟨0, rfl, by omega, by simpa using hb1, hf1⟩, ?_⟩
  rintro _ w2 ivv ⟨i, hvs, hi, hb2, hf2⟩
  cases hvs
  by_cases hlt : i < m
  · have e1 : decide ((i : Int) < (m : Int)) = true := by rw [decide_eq_true_eq]; omega
    have e2 : IntKind.i64.wrap ((i : Int) + 1) = ((i + 1 : Nat) : Int) := by rw [wrap_id] <;> omega
    have e3 : IntKind.i64.wrap ((m : Int) - 1) = ((m - 1 : Nat) : Int) := by rw [wrap_id] <;> omega
    have e4 : IntKind.i64.wrap (((m - 1 : Nat) : Int) - i) = ((m - 1 - i : Nat) : Int) := by rw [wrap_id] <;> omega
    have e5 : IntKind.i64.wrap (8 * ((m - 1 - i : Nat) : Int)) = ((8 * (m - 1 - i) : Nat) : Int) := by rw [wrap_id] <;> omega
    have e6 := shr_nat x (8 * (m - 1 - i)) (by omega) (TypeDesc.int IntKind.i64) .i64
    have hget := beN_get m x i hlt
    have hpw : x / 2 ^ (8 * (m - 1 - i)) = x / 256 ^ (m - 1 - i) := by rw [Nat.pow_mul]
    have hval : IntKind.u8.wrap ((x / 2 ^ (8 * (m - 1 - i)) : Nat) : Int) = (((UInt8.ofNat (x / 256 ^ (m - 1 - i) % 256)).toNat : Nat) : Int) := by
      rw [wrap_u8_mod, ofN_toNat (by omega), hpw]
    generalize UInt8.ofNat (x / 256 ^ (m - 1 - i) % 256) = b at hget hval
    have hix : ixV 1 (.slice (some ⟨g, 0, none⟩) m m) (iv i) = some (.pointer (some ⟨g, i, none⟩)) := by rw [ixV_at hlt, add_none]; simp
    simp only [RS0, RS1, RS2, RS3, RS4, RS5, e1, e3, e4, e5, e6, cvI_int, hval, hix]
    refine BRow.put hb2 (b := b) (by simp [beN_len]; omega) ?_
    intro w3 hb3 hs3 hf3
    rw [take_set_one _ hget m hlt] at hb3
    simp only [RS0, RS1, RS2, RS3, RS4, RS5, e2]
    exact ⟨⟨i + 1, rfl, by omega, hb3, Fm.own hf2 hf3 (by rintro y rfl; omega)⟩, by simp only [nth_0]; omega⟩
  · obtain rfl : i = m := by omega
    have e1 : decide ((i : Int) < (i : Int)) = false := by simp
    have hfull : (beN i x).take i ++ List.replicate (i - i) (0 : UInt8) = beN i x := by rw [Nat.sub_self, List.take_of_length_le (by rw [beN_len]; exact Nat.le_refl _)]; simp
    rw [hfull] at hb2
    simp only [RS0, RS1, RS2, RS3, RS4, RS5, e1]
    refine RunS_ok (BRow.conv B38 hb2 (o := 0) (n := i) (by rw [beN_len]; omega) i) ?_
    refine ⟨?_, hf2⟩
    rw [List.drop_zero, List.take_of_length_le (by rw [beN_len]; exact Nat.le_refl _)]
/-- The document's. -/
theorem rbig_spec (w : World) {n : Int} (hn : In n) (k : Int) : Cl Tryz.prog 192 [iv n, iv k] w fun r w' => r = stv (bigB n k) ∧ Fm (fun _ => False) w w' := by
  refine c192 ?_; unfold T192
  unfold bigB
  cases h1 : decide (k < 1) with
  | true =>
    simp only [RS0, RS1, RS2, RS3, RS4, RS5, h1, Bool.true_or, cond_true]
    exact ⟨(by trivial), Fm.refl _ _⟩
  | false =>
  cases h2 : decide (8 < k) with
  | true =>
    simp only [RS0, RS1, RS2, RS3, RS4, RS5, h1, h2, Bool.true_or, Bool.or_true, cond_true]
    exact ⟨(by trivial), Fm.refl _ _⟩
  | false =>
  cases h3 : decide (n < 0) with
  | true =>
    simp only [RS0, RS1, RS2, RS3, RS4, RS5, h1, h2, h3, Bool.true_or, Bool.or_true, cond_true]
    exact ⟨(by trivial), Fm.refl _ _⟩
  | false =>
  rw [decide_eq_false_iff_not] at h1 h2 h3
  obtain ⟨x, rfl⟩ := Int.eq_ofNat_of_zero_le (show 0 ≤ n by omega)
  obtain ⟨m, rfl⟩ := Int.eq_ofNat_of_zero_le (show 0 ≤ k by omega)
  have g1' : decide ((m : Int) < 1) = false := by rw [decide_eq_false_iff_not]; exact h1
  have g2' : decide (8 < (m : Int)) = false := by rw [decide_eq_false_iff_not]; exact h2
  have g3' : decide ((x : Int) < 0) = false := by rw [decide_eq_false_iff_not]; exact h3
  have hm : 1 ≤ m ∧ m ≤ 8 := by omega
  have hx : x ≤ 9223372036854775807 := by have := hn.2; omega
  have e0 : IntKind.i64.wrap ((m : Int) - 1) = (m : Int) - 1 := by rw [wrap_id]; omega
  simp only [RS0, RS1, RS2, RS3, RS4, RS5, g1', g2', g3', Bool.or_false, cond_false, Int.toNat_natCast]
  refine RunS_ok (BRow.make B38 w m (by omega)) ?_
  have hb1 := alloc_new w (.cells (bc (List.replicate m 0)).toArray 5)
  have hf1 := Fm.alloc (fun _ => False) w (.cells (bc (List.replicate m 0)).toArray 5)
  have hg := Nat.le_refl w.heap.size
  generalize hge : w.heap.size = g at hb1
  generalize w.alloc (.cells (bc (List.replicate m 0)).toArray 5) = w1 at hb1 hf1
  replace hb1 : BRow w1 g 5 (List.replicate m 0) := hb1
  simp only [RS0, RS1, RS2, RS3, RS4, RS5, e0]
  refine ⟨fun vs w2 => ∃ i : Nat, vs = [iv (x / 256 ^ (m - i) : Nat), iv ((i : Int) - 1)] ∧ i ≤ m ∧ BRow w2 g 5 (List.replicate i 0 ++ beN (m - i) x) ∧ Fm (fun _ => False) w w2, fun vs _ => (nth vs 1 + 1).toNat, ⟨m, by rw [Nat.sub_self]; simp, by omega, by rw [Nat.sub_self]; simpa [beN] using hb1, hf1⟩, ?_⟩
  rintro _ w2 nv ivv ⟨i, hvs, hi, hb2, hf2⟩
  cases hvs
  by_cases hlt : 0 < i
  · have e1 : decide ((0 : Int) ≤ (i : Int) - 1) = true := by rw [decide_eq_true_eq]; omega
    have e2 : IntKind.i64.wrap ((i : Int) - 1 - 1) = ((i - 1 : Nat) : Int) - 1 := by rw [wrap_id] <;> omega
    have hpos : x / 256 ^ (m - i) ≤ x := Nat.div_le_self _ _
    have e3 := rem_nat (TypeDesc.int IntKind.i64) (n := x / 256 ^ (m - i)) (m := 256) (by omega) (by omega) (b := 256) rfl
    have e4 := quo_nat (TypeDesc.int IntKind.i64) (n := x / 256 ^ (m - i)) (m := 256) (by omega) (by omega) (b := 256) rfl
    have hd : x / 256 ^ (m - i) / 256 = x / 256 ^ (m - (i - 1)) := by
      rw [Nat.div_div_eq_div_mul, ← Nat.pow_succ]
      congr 2; omega
    have hcast : ((i : Int) - 1) = ((i - 1 : Nat) : Int) := by omega
    have hix : ixV 1 (.slice (some ⟨g, 0, none⟩) m m) (iv ((i : Int) - 1)) = some (.pointer (some ⟨g, i - 1, none⟩)) := by
      rw [hcast]
      have := ixV_at (sz := 1) (a := ⟨g, 0, none⟩) (len := m) (cap := m) (k := .i64) (i := i - 1) (by omega)
      rw [this, add_none]; simp
    have hval : IntKind.u8.wrap ((x / 256 ^ (m - i) % 256 : Nat) : Int) = (((UInt8.ofNat (x / 256 ^ (m - i) % 256)).toNat : Nat) : Int) := by
      rw [wrap_u8_mod, ofN_toNat (by omega), Nat.mod_mod]
    have hbe : beN (m - (i - 1)) x = UInt8.ofNat (x / 256 ^ (m - i) % 256) :: beN (m - i) x := by
      have key : ∀ (k n : Nat), beN (k + 1) n = UInt8.ofNat (n / 256 ^ k % 256) :: beN k n := by
        intro k
        induction k with
        | zero => intro n; simp [beN]
        | succ k ih =>
          intro n
          rw [beN, ih, List.cons_append, beN]
          congr 3
          rw [Nat.div_div_eq_div_mul, ← Nat.pow_succ']
      rw [show m - (i - 1) = (m - i) + 1 by omega]; exact key _ _
    simp only [RS0, RS1, RS2, RS3, RS4, RS5, e1, e3, cvI_int, hval, hix]
    refine BRow.put hb2 (by simp [beN_len]; omega) ?_
    intro w3 hb3 hs3 hf3
    have hset : (List.replicate i (0 : UInt8) ++ beN (m - i) x).set (i - 1) (UInt8.ofNat (x / 256 ^ (m - i) % 256)) = List.replicate (i - 1) 0 ++ beN (m - (i - 1)) x := by
      rw [hbe]
      have : List.replicate i (0 : UInt8) = List.replicate (i - 1) 0 ++ [0] := by
        rw [show i = (i - 1) + 1 by omega, List.replicate_succ']; simp
      rw [this, List.append_assoc, List.set_append_right _ _ (by simp)]
      simp
    rw [hset] at hb3
    simp only [RS0, RS1, RS2, RS3, RS4, RS5, e4, hd, e2]
    exact ⟨⟨i - 1, rfl, by omega, hb3, Fm.own hf2 hf3 (by rintro y rfl; omega)⟩, by simp only [nth_1]; omega⟩
  · obtain rfl : i = 0 := by omega
    have e1 : decide ((0 : Int) ≤ ((0 : Nat) : Int) - 1) = false := by decide
    rw [Nat.sub_zero] at hb2
    replace hb2 : BRow w2 g 5 (beN m x) := by simpa using hb2
    simp only [RS0, RS1, RS2, RS3, RS4, RS5, e1]
    refine RunS_ok (BRow.conv B38 hb2 (o := 0) (n := m) (by rw [beN_len]; omega) m) ?_
    refine ⟨?_, hf2⟩
    rw [List.drop_zero, List.take_of_length_le (by rw [beN_len]; exact Nat.le_refl _)]

theorem foldl_take' {α β : Type} (f : β → α → β) (b : β) {l : List α} {i : Nat} {x : α} (hi : l[i]? = some x) : (l.take (i + 1)).foldl f b = f ((l.take i).foldl f b) x := by
  rw [List.take_add_one, hi, List.foldl_append]; rfl
theorem of_spec (w : World) (l : Bs) (hl : l.length ≤ 9223372036854775806) : Cl Tryz.prog 79 [stv l] w fun r w' => r = iv (ofN l : Nat) ∧ w' = w := by
  refine c79 ?_; unfold T79
  simp only [RS0, RS1, RS2, RS3, RS4, RS5, str_size]
  refine ⟨fun vs w2 => ∃ i : Nat, vs = [qv (of64 (l.take i)), iv i] ∧ i ≤ l.length ∧ w2 = w, fun vs _ => (l.length - nth vs 1).toNat, ⟨0, rfl, by omega, rfl⟩, ?_⟩
  rintro _ w2 cv ivv ⟨i, hvs, hi, rfl⟩
  cases hvs
  have hc : of64 (l.take i) < 2 ^ 64 := by rw [of64_eq]; omega
  by_cases hlt : i < l.length
  · have e1 : decide ((i : Int) < (l.length : Int)) = true := by rw [decide_eq_true_eq]; omega
    have e2 : IntKind.i64.wrap ((i : Int) + 1) = ((i + 1 : Nat) : Int) := by rw [wrap_id] <;> omega
    have hx : l[i]? = some l[i] := List.getElem?_eq_getElem hlt
    generalize l[i] = b at hx
    have hst : of64 (l.take (i + 1)) = (of64 (l.take i) * 256 + b.toNat) % 2 ^ 64 := foldl_take' _ _ hx
    generalize of64 (l.take i) = c at hc hst
    have hb := b.toNat_lt
    have q1 : IntKind.u64.wrap (b.toNat : Int) = (b.toNat : Int) := wrap_u64 (by omega)
    have o1 := or_u64 (TypeDesc.int IntKind.u64) (a := c * 256 % 2 ^ 64) (b := b.toNat) (by omega) (by omega) (by omega)
    simp only [RS0, RS1, RS2, RS3, RS4, RS5, e1, shl_u64, ixS_str hx, cvI_int, q1, o1, e2]
    refine ⟨⟨i + 1, ?_, by omega, (by trivial)⟩, by simp only [nth_1]; omega⟩
    rw [hst]
    congr 3
    omega
  · have hie : i = l.length := by omega
    subst hie
    have e1 : decide (((l.length : Nat) : Int) < (l.length : Int)) = false := by simp
    rw [List.take_length] at hc ⊢
    have q1 : IntKind.i64.wrap ((of64 l % 2 ^ 63 : Nat) : Int) = ((of64 l % 2 ^ 63 : Nat) : Int) := wrap_nat (by omega)
    simp only [RS0, RS1, RS2, RS3, RS4, RS5, e1, top_u64 _ hc, cvI_int, q1]
    refine ⟨?_, (by trivial)⟩
    rw [ofN, of64_eq]
    congr 2
    omega
theorem rof_spec (w : World) (l : Bs) (hl : l.length ≤ 9223372036854775806) : Cl Tryz.prog 83 [stv l] w fun r w' => r = iv (ofN l : Nat) ∧ w' = w := by
  refine c83 ?_; unfold T83
  refine ⟨fun vs w2 => ∃ i : Nat, vs = [iv (ofN (l.take i) : Nat), iv i] ∧ i ≤ l.length ∧ w2 = w, fun vs _ => (l.length - nth vs 1).toNat, ⟨0, rfl, by omega, rfl⟩, ?_⟩
  rintro _ w2 cv ivv ⟨i, hvs, hi, rfl⟩
  cases hvs
  have hc : ofN (l.take i) < 2 ^ 63 := by unfold ofN; omega
  by_cases hlt : i < l.length
  · have e1 : decide ((i : Int) < (l.length : Int)) = true := by rw [decide_eq_true_eq]; omega
    have e2 : IntKind.i64.wrap ((i : Int) + 1) = ((i + 1 : Nat) : Int) := by rw [wrap_id] <;> omega
    have hx : l[i]? = some l[i] := List.getElem?_eq_getElem hlt
    generalize l[i] = b at hx
    have hst : ofB (l.take (i + 1)) = ofB (l.take i) * 256 + b.toNat := foldl_take' _ _ hx
    have hb := b.toNat_lt
    have hn : ofN (l.take (i + 1)) = ofN (l.take i) % 36028797018963968 * 256 + b.toNat := by
      unfold ofN
      rw [hst]; omega
    generalize ofN (l.take i) = c at hc hn
    have r1 := rem_nat (TypeDesc.int IntKind.i64) (n := c) (m := 36028797018963968) (by omega) (by omega) (b := 36028797018963968) rfl
    have m1 : IntKind.i64.wrap (((c % 36028797018963968 : Nat) : Int) * 256) = ((c % 36028797018963968 * 256 : Nat) : Int) := by rw [wrap_id] <;> omega
    have q1 : IntKind.i64.wrap (b.toNat : Int) = (b.toNat : Int) := wrap_nat (by omega)
    have a1 : IntKind.i64.wrap (((c % 36028797018963968 * 256 : Nat) : Int) + (b.toNat : Int)) = ((c % 36028797018963968 * 256 + b.toNat : Nat) : Int) := by rw [wrap_id] <;> omega
    simp only [RS0, RS1, RS2, RS3, RS4, RS5, str_size, e1, r1, m1, ixS_str hx, cvI_int, q1, a1, e2]
    exact ⟨⟨i + 1, by rw [hn], by omega, (by trivial)⟩, by simp only [nth_1]; omega⟩
  · have hie : i = l.length := by omega
    subst hie
    have e1 : decide (((l.length : Nat) : Int) < (l.length : Int)) = false := by simp
    rw [List.take_length]
    simp only [RS0, RS1, RS2, RS3, RS4, RS5, str_size, e1]
    exact ⟨(by trivial), (by trivial)⟩

end Go.Proofs.YthbngnlmgplijaaGreatDoor
