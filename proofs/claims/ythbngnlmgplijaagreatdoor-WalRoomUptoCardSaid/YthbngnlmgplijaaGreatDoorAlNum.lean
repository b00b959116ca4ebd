/- Numbers: division, remainders, complement. -/
import Derived.Test.YthbngnlmgplijaaGreatDoorAlRules
namespace Go.Al
set_option linter.unusedVariables false
set_option linter.unusedSimpArgs false

abbrev iv (n : Int) : Value := Value.int .i64 n
theorem i64_of_wf {n : Int} (h : (Lit.int .i64 n).wf = true) : -9223372036854775808 ≤ n ∧ n ≤ 9223372036854775807 := by
  have h1 : (decide (-9223372036854775808 ≤ n) && decide (n ≤ 9223372036854775807)) = true := h
  simpa using h1
theorem wrap_nat {n : Nat} (h : n ≤ 9223372036854775807) : IntKind.i64.wrap (n : Int) = n := wrap_id (by omega)
theorem quo_i64 (d : TypeDesc) {a b : Int} (hb : b ≠ 0) (h : -9223372036854775808 ≤ a.tdiv b ∧ a.tdiv b ≤ 9223372036854775807) : binV d .quo (iv a) (iv b) = some (iv (a.tdiv b)) := by
  rw [binV_quo, if_neg hb, wrap_id h]
theorem quo_nat (d : TypeDesc) {n m : Nat} (hm : 0 < m) (h : n ≤ 9223372036854775807) {b : Int} (hb : b = (m : Int)) : binV d .quo (iv n) (iv b) = some (iv ((n / m : Nat) : Int)) := by
  subst hb
  have e : (n : Int).tdiv (m : Int) = ((n / m : Nat) : Int) := by rw [Int.tdiv_eq_ediv_of_nonneg (by omega)]; rfl
  have hle : n / m ≤ n := Nat.div_le_self n m
  rw [quo_i64 d (by omega) (by rw [e]; generalize n / m = q at *; omega), e]
theorem rem_nat (d : TypeDesc) {n m : Nat} (hm : 0 < m) (h : n ≤ 9223372036854775807) {b : Int} (hb : b = (m : Int)) : binV d .rem (iv n) (iv b) = some (iv ((n % m : Nat) : Int)) := by
  subst hb
  have e : (n : Int).tmod (m : Int) = ((n % m : Nat) : Int) := by rw [Int.tmod_eq_emod_of_nonneg (by omega)]; rfl
  have hle : n % m ≤ n := Nat.mod_le n m
  rw [binV_rem, if_neg (by omega), e]
theorem quo_pos (d : TypeDesc) {a b : Int} (ha : 0 ≤ a) (hb : 0 < b) (h : a ≤ 9223372036854775807) : binV d .quo (iv a) (iv b) = some (iv (a / b)) := by
  obtain ⟨n, rfl⟩ := Int.eq_ofNat_of_zero_le ha
  obtain ⟨m, rfl⟩ := Int.eq_ofNat_of_zero_le (show 0 ≤ b by omega)
  rw [quo_nat d (n := n) (m := m) (by omega) (by omega) rfl]; rfl
theorem rem_pos (d : TypeDesc) {a b : Int} (ha : 0 ≤ a) (hb : 0 < b) (h : a ≤ 9223372036854775807) : binV d .rem (iv a) (iv b) = some (iv (a % b)) := by
  obtain ⟨n, rfl⟩ := Int.eq_ofNat_of_zero_le ha
  obtain ⟨m, rfl⟩ := Int.eq_ofNat_of_zero_le (show 0 ≤ b by omega)
  rw [rem_nat d (n := n) (m := m) (by omega) (by omega) rfl]; rfl
theorem xor_i64 {n : Int} (h : -9223372036854775808 ≤ n ∧ n ≤ 9223372036854775807) : unV .xor (iv n) = some (iv (-(n + 1))) := by
  have e1 : BitVec.ofInt 64 (-1) = BitVec.allOnes 64 := by decide
  have e2 : ((BitVec.ofInt 64 (-1)) ^^^ (BitVec.ofInt 64 n)).toNat = 18446744073709551615 - (n % 18446744073709551616).toNat := by
    rw [e1, BitVec.allOnes_xor, BitVec.toNat_not, BitVec.toNat_ofInt]; rfl
  have e3 : unV .xor (iv n) = some (iv (IntKind.i64.wrap (((BitVec.ofInt 64 (-1)) ^^^ (BitVec.ofInt 64 n)).toNat : Int))) := rfl
  rw [e3, e2]
  congr 2
  unfold IntKind.wrap
  simp [IntKind.bits, IntKind.signed]
  omega
def andI (k : IntKind) (a b : Int) : Int := k.wrap ((BitVec.ofInt k.bits a) &&& (BitVec.ofInt k.bits b)).toNat
theorem binV_and (d : TypeDesc) (k : IntKind) (a b : Int) : binV d .and (.int k a) (.int k b) = some (.int k (andI k a b)) := by simp [binV, isSh, binI, andI]
theorem ofInt_nat (w n : Nat) (h : n < 2 ^ w) : (BitVec.ofInt w (n : Int)).toNat = n := by
  rw [BitVec.toNat_ofInt]
  have e : (((2 ^ w : Nat) : Int)) = (2 ^ w : Nat) := rfl
  rw [Int.emod_eq_of_lt (by omega) (by omega)]; rfl
def orI (k : IntKind) (a b : Int) : Int := k.wrap ((BitVec.ofInt k.bits a) ||| (BitVec.ofInt k.bits b)).toNat
theorem binV_or (d : TypeDesc) (k : IntKind) (a b : Int) : binV d .or (.int k a) (.int k b) = some (.int k (orI k a b)) := by simp [binV, isSh, binI, orI]
def andNotI (k : IntKind) (a b : Int) : Int := k.wrap ((BitVec.ofInt k.bits a) &&& ~~~ (BitVec.ofInt k.bits b)).toNat
theorem binV_andNot (d : TypeDesc) (k : IntKind) (a b : Int) : binV d .andNot (.int k a) (.int k b) = some (.int k (andNotI k a b)) := by simp [binV, isSh, binI, andNotI]
theorem and_le (a b : Nat) : a &&& b ≤ a := Nat.and_le_left
theorem and_i64 (a b : Nat) (ha : a ≤ 9223372036854775807) (hb : b ≤ 9223372036854775807) : andI .i64 a b = ((a &&& b : Nat) : Int) := by
  have h1 : (BitVec.ofInt 64 (a : Int)).toNat = a := ofInt_nat 64 a (by omega)
  have h2 : (BitVec.ofInt 64 (b : Int)).toNat = b := ofInt_nat 64 b (by omega)
  show IntKind.i64.wrap (((BitVec.ofInt 64 (a : Int)) &&& (BitVec.ofInt 64 (b : Int))).toNat : Int) = _
  rw [BitVec.toNat_and, h1, h2]
  have : a &&& b ≤ a := Nat.and_le_left
  generalize a &&& b = c at *
  exact wrap_nat (by omega)
theorem and_u8 (a b : Nat) (ha : a < 256) (hb : b < 256) : andI .u8 a b = ((a &&& b : Nat) : Int) := by
  have h1 : (BitVec.ofInt 8 (a : Int)).toNat = a := ofInt_nat 8 a (by omega)
  have h2 : (BitVec.ofInt 8 (b : Int)).toNat = b := ofInt_nat 8 b (by omega)
  show IntKind.u8.wrap (((BitVec.ofInt 8 (a : Int)) &&& (BitVec.ofInt 8 (b : Int))).toNat : Int) = _
  rw [BitVec.toNat_and, h1, h2]
  have : a &&& b ≤ a := Nat.and_le_left
  generalize a &&& b = c at *
  unfold IntKind.wrap; simp [IntKind.bits, IntKind.signed]; omega
theorem or_lt {a b n : Nat} (ha : a < 2 ^ n) (hb : b < 2 ^ n) : a ||| b < 2 ^ n := Nat.or_lt_two_pow ha hb
theorem or_i64 (a b : Nat) (ha : a < 2 ^ 63) (hb : b < 2 ^ 63) : orI .i64 a b = ((a ||| b : Nat) : Int) := by
  have h1 : (BitVec.ofInt 64 (a : Int)).toNat = a := ofInt_nat 64 a (by omega)
  have h2 : (BitVec.ofInt 64 (b : Int)).toNat = b := ofInt_nat 64 b (by omega)
  show IntKind.i64.wrap (((BitVec.ofInt 64 (a : Int)) ||| (BitVec.ofInt 64 (b : Int))).toNat : Int) = _
  rw [BitVec.toNat_or, h1, h2]
  have := or_lt ha hb
  generalize a ||| b = c at *
  exact wrap_nat (by omega)
theorem or_u8 (a b : Nat) (ha : a < 256) (hb : b < 256) : orI .u8 a b = ((a ||| b : Nat) : Int) := by
  have h1 : (BitVec.ofInt 8 (a : Int)).toNat = a := ofInt_nat 8 a (by omega)
  have h2 : (BitVec.ofInt 8 (b : Int)).toNat = b := ofInt_nat 8 b (by omega)
  show IntKind.u8.wrap (((BitVec.ofInt 8 (a : Int)) ||| (BitVec.ofInt 8 (b : Int))).toNat : Int) = _
  rw [BitVec.toNat_or, h1, h2]
  have := or_lt (n := 8) ha hb
  generalize a ||| b = c at *
  unfold IntKind.wrap; simp [IntKind.bits, IntKind.signed]; omega
theorem rem_emod (d : TypeDesc) {a b : Int} (hb : 0 < b) : binV d .rem (iv a) (iv b) = some (iv (a.tmod b)) := by rw [binV_rem, if_neg (by omega)]
theorem beq_dec (a b : Int) : (a == b) = decide (a = b) := by by_cases h : a = b <;> simp [h]
theorem bne_dec (a b : Int) : (a != b) = !decide (a = b) := by by_cases h : a = b <;> simp [h]

end Go.Al
