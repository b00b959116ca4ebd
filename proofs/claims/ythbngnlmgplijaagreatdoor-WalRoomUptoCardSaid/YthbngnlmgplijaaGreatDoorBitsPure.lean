/- Numbers as bytes, plainly. -/
import Derived.Test.YthbngnlmgplijaaGreatDoorAlBytes
import Derived.Test.YthbngnlmgplijaaGreatDoorAlNum
namespace Go.Al
set_option linter.unusedVariables false
set_option linter.unusedSimpArgs false
set_option linter.unusedSectionVars false

/-- A number is read: its value, the rest, what was wrong (k bytes of it were read, which made n). -/
def rdN (most : Int) : Nat → Nat → Nat → Bs → Int × Bs × Int
  | 0, _, _, _ => (0, [], 11)
  | _ + 1, _, _, [] => (0, [], 10)
  | f + 1, k, n, b :: t =>
    let n' := n + (b.toNat % 128) * 128 ^ k
    bif decide (b = 0 ∧ 0 < k) then (0, [], 11)
    else bif decide (128 ≤ b.toNat) then rdN most f (k + 1) n' t
    else bif decide (max most 0 < (n' : Int)) then (0, [], 11)
    else (n', t, 0)
def rdNum (most : Int) (s : Bs) (e : Int) : Int × Bs × Int := bif decide (e = 0) then rdN most 9 0 0 s else (0, s, e)
def endE (s : Bs) (e : Int) : Int := bif decide (e = 0) && decide (0 < s.length) then 12 else e

def encN (n : Nat) : Bs := if 127 < n then UInt8.ofNat (n % 128 + 128) :: encN (n / 128) else [UInt8.ofNat n]
termination_by n
decreasing_by omega
theorem encN_small {n : Nat} (h : n ≤ 127) : encN n = [UInt8.ofNat n] := by rw [encN, if_neg (by omega)]
theorem encN_big {n : Nat} (h : 127 < n) : encN n = UInt8.ofNat (n % 128 + 128) :: encN (n / 128) := by rw [encN, if_pos h]
theorem encN_len : ∀ (f n : Nat), n < 128 ^ f → (encN n).length ≤ max f 1
  | 0, n, h => by rw [encN_small (by omega)]; simp
  | f + 1, n, h => by
    by_cases hn : 127 < n
    · rw [encN_big hn, List.length_cons]
      have := encN_len f (n / 128) (by rw [Nat.div_lt_iff_lt_mul (by omega)]; rw [Nat.pow_succ] at h; exact h)
      have hf : f ≠ 0 := by rintro rfl; simp at h; omega
      omega
    · rw [encN_small (by omega)]; simp
theorem encN_le {n : Nat} (h : n ≤ 9223372036854775807) : 1 ≤ (encN n).length ∧ (encN n).length ≤ 9 := by
  have := encN_len 9 n (by omega)
  refine ⟨?_, by omega⟩
  by_cases hn : 127 < n
  · rw [encN_big hn]; simp
  · rw [encN_small (by omega)]; simp
theorem u8_ofNat {n : Nat} (h : n < 256) : (UInt8.ofNat n).toNat = n := by simp [Nat.mod_eq_of_lt h]
/-- What was laid is read. -/
theorem rdN_enc (most : Int) : ∀ (f k n m : Nat) (t : Bs), n < 128 ^ f → 0 < f → (0 < k → 0 < n) → (m + n * 128 ^ k : Nat) ≤ max most 0 → rdN most f k m (encN n ++ t) = (((m + n * 128 ^ k : Nat) : Int), t, 0)
  | 0, k, n, m, t, h, h0, hk, hm => by omega
  | f + 1, k, n, m, t, h, h0, hk, hm => by
    by_cases hn : 127 < n
    · rw [encN_big hn, List.cons_append, rdN]
      have e1 : (UInt8.ofNat (n % 128 + 128)).toNat = n % 128 + 128 := u8_ofNat (by omega)
      have hne : decide (UInt8.ofNat (n % 128 + 128) = 0 ∧ 0 < k) = false := by
        rw [decide_eq_false_iff_not]
        rintro ⟨h, _⟩
        have := congrArg UInt8.toNat h
        rw [e1] at this; simp at this
      simp only [e1, hne, cond_false, show decide (128 ≤ n % 128 + 128) = true by simp, cond_true, Nat.add_mod_right, Nat.mod_mod]
      have hd : n / 128 < 128 ^ f := by rw [Nat.div_lt_iff_lt_mul (by omega)]; rw [Nat.pow_succ] at h; exact h
      have hf : 0 < f := by
        rcases Nat.eq_zero_or_pos f with rfl | hf
        · simp at h; omega
        · exact hf
      have key : m + n % 128 * 128 ^ k + n / 128 * 128 ^ (k + 1) = m + n * 128 ^ k := by
        have hdm := Nat.div_add_mod n 128
        calc m + n % 128 * 128 ^ k + n / 128 * 128 ^ (k + 1) = m + (128 * (n / 128) + n % 128) * 128 ^ k := by rw [Nat.pow_succ, Nat.add_mul]; simp only [Nat.mul_assoc, Nat.mul_comm, Nat.mul_left_comm]; omega
          _ = m + n * 128 ^ k := by rw [hdm]
      have := rdN_enc most f (k + 1) (n / 128) (m + n % 128 * 128 ^ k) t hd hf (fun _ => by omega) (by rw [key]; exact hm)
      rw [this, key]
    · rw [encN_small (by omega), List.cons_append, List.nil_append, rdN]
      have e1 : (UInt8.ofNat n).toNat = n := u8_ofNat (by omega)
      have hne : decide (UInt8.ofNat n = 0 ∧ 0 < k) = false := by
        rw [decide_eq_false_iff_not]
        rintro ⟨h, h2⟩
        have := congrArg UInt8.toNat h
        rw [e1] at this
        have := hk h2
        simp_all
      have e2 : n % 128 = n := Nat.mod_eq_of_lt (by omega)
      have e3 : decide (max most 0 < ((m + n * 128 ^ k : Nat) : Int)) = false := by rw [decide_eq_false_iff_not]; omega
      simp only [e1, hne, cond_false, show decide (128 ≤ n) = false by rw [decide_eq_false_iff_not]; omega, e2, e3]
theorem rdN_in (most : Int) : ∀ (f k n : Nat) (s : Bs), 0 ≤ (rdN most f k n s).1 ∧ (rdN most f k n s).1 ≤ max most 0 ∧ (rdN most f k n s).2.1.length ≤ s.length
  | 0, k, n, s => by simp [rdN]; omega
  | f + 1, k, n, [] => by simp [rdN]; omega
  | f + 1, k, n, b :: t => by
    rw [rdN]
    cases h1 : decide (b = 0 ∧ 0 < k) with
    | true => simp only [cond_true]; simp; omega
    | false =>
      simp only [cond_false]
      cases h2 : decide (128 ≤ b.toNat) with
      | true =>
        simp only [cond_true]
        have := rdN_in most f (k + 1) (n + b.toNat % 128 * 128 ^ k) t
        refine ⟨this.1, this.2.1, by simp; omega⟩
      | false =>
        simp only [cond_false]
        cases h3 : decide (max most 0 < ((n + b.toNat % 128 * 128 ^ k : Nat) : Int)) with
        | true => simp only [cond_true]; simp; omega
        | false =>
          simp only [cond_false]
          rw [decide_eq_false_iff_not] at h3
          refine ⟨by omega, by omega, by simp⟩

theorem or_add {n c k : Nat} (h : n < 2 ^ k) : n ||| (c * 2 ^ k) = n + c * 2 ^ k := by
  have := Nat.two_pow_add_eq_or_of_lt h c
  rw [Nat.or_comm, Nat.mul_comm c, ← this]; omega
theorem and127 (n : Nat) : n &&& 127 = n % 128 := Nat.and_two_pow_sub_one_eq_mod n 7
theorem or128 {n : Nat} (h : n < 256) : n ||| 128 = n % 128 + 128 := by
  have h1 : n = 128 * (n / 128) + n % 128 := (Nat.div_add_mod n 128).symm
  have h2 : n / 128 = 0 ∨ n / 128 = 1 := by omega
  rcases h2 with h2 | h2
  · have h3 : n < 2 ^ 7 := by omega
    have := or_add (c := 1) h3
    simp at this
    rw [this]; omega
  · have h4 := or_add (n := n % 128) (c := 1) (k := 7) (by omega)
    simp at h4
    have h5 : n = n % 128 ||| 128 := by rw [h4]; omega
    rw [h5, Nat.or_assoc, Nat.or_self, ← h5]; omega
theorem ixS_str {s : Bs} {k : Nat} {b : UInt8} (h : s[k]? = some b) (i : IntKind) : ixS (stv s) (.int i k) = some (.int .u8 b.toNat) := by
  have hl := (List.getElem?_eq_some_iff.1 h).1
  have hk : k < (str s).size := by rw [str_size]; exact hl
  have h1 : (str s)[k]? = some b := by
    rw [getElem?_pos (str s) k hk]
    have h2 : (str s)[k] = s[k] := rfl
    rw [h2]
    rw [List.getElem?_eq_getElem hl] at h; exact h
  simp [ixS, h1]
theorem shl_nat (a k : Nat) (h : a * 2 ^ k ≤ 9223372036854775807) (hk : k ≤ 64) (d : TypeDesc) (j : IntKind) : binV d .shl (iv a) (.int j k) = some (iv ((a * 2 ^ k : Nat) : Int)) := by
  have h0 : ¬ ((k : Int) < 0) := by omega
  have e : binV d .shl (iv a) (.int j k) = some (iv (IntKind.i64.wrap ((a : Int) * 2 ^ (min (k : Int).toNat IntKind.i64.bits)))) := by
    rw [binV_shl]; unfold shV; rw [if_neg h0]
  rw [e]
  have e2 : min (k : Int).toNat IntKind.i64.bits = k := by show min (k : Int).toNat 64 = k; omega
  rw [e2]
  have e3 : (a : Int) * 2 ^ k = ((a * 2 ^ k : Nat) : Int) := by push_cast; rfl
  rw [e3, wrap_nat h]
theorem shr_nat (a k : Nat) (hk : k ≤ 64) (d : TypeDesc) (j : IntKind) : binV d .shr (iv a) (.int j k) = some (iv ((a / 2 ^ k : Nat) : Int)) := by
  have h0 : ¬ ((k : Int) < 0) := by omega
  have e : binV d .shr (iv a) (.int j k) = some (iv ((a : Int).fdiv (2 ^ (min (k : Int).toNat IntKind.i64.bits)))) := by
    rw [binV_shr]; unfold shV; rw [if_neg h0]
  rw [e]
  have e2 : min (k : Int).toNat IntKind.i64.bits = k := by show min (k : Int).toNat 64 = k; omega
  rw [e2]
  congr 2
  rw [Int.fdiv_eq_ediv_of_nonneg _ (by exact Int.pow_nonneg (by decide))]
  have : ((2 : Int) ^ k) = ((2 ^ k : Nat) : Int) := by push_cast; rfl
  rw [this]; rfl

end Go.Al
