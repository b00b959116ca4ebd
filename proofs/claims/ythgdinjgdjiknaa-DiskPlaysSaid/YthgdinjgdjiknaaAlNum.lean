/- Numbers: division, remainders, complement. -/
import Derived.Test.YthgdinjgdjiknaaAlRules
namespace Go.Al
set_option linter.unusedVariables false
set_option linter.unusedSimpArgs false

abbrev iv (n : Int) : Value := Value.int .i64 n
theorem i64_of_wf {n : Int} (h : (Lit.int .i64 n).wf = true) : -9223372036854775808 ≤ n ∧ n ≤ 9223372036854775807 := by
  have h1 : (decide (-9223372036854775808 ≤ n) && decide (n ≤ 9223372036854775807)) = true := h
  simpa using h1
theorem wrap_nat {n : Nat} (h : n ≤ 9223372036854775807) : IntKind.i64.wrap (n : Int) = n := wrap_id (by omega)
theorem quo_i64 (d : TypeDesc) {a b : Int} (hb : b ≠ 0) (h : -9223372036854775808 ≤ a.tdiv b ∧ a.tdiv b ≤ 9223372036854775807) : binV d .quo (iv a) (iv b) = some (iv (a.tdiv b)) := by
  rw [binV_quo, if_neg hb, wrap_id h]
theorem quo_nat (d : TypeDesc) {n m : Nat} (hm : 0 < m) (h : n ≤ 9223372036854775807) {b : Int} (hb : b = (m : Int)) : binV d .quo (iv n) (iv b) = some (iv ((n / m : Nat) : Int)) := by
  subst hb
  have e : (n : Int).tdiv (m : Int) = ((n / m : Nat) : Int) := by rw [Int.tdiv_eq_ediv_of_nonneg (by omega)]; rfl
  have hle : n / m ≤ n := Nat.div_le_self n m
  rw [quo_i64 d (by omega) (by rw [e]; generalize n / m = q at *; omega), e]
theorem rem_nat (d : TypeDesc) {n m : Nat} (hm : 0 < m) (h : n ≤ 9223372036854775807) {b : Int} (hb : b = (m : Int)) : binV d .rem (iv n) (iv b) = some (iv ((n % m : Nat) : Int)) := by
  subst hb
  have e : (n : Int).tmod (m : Int) = ((n % m : Nat) : Int) := by rw [Int.tmod_eq_emod_of_nonneg (by omega)]; rfl
  have hle : n % m ≤ n := Nat.mod_le n m
  rw [binV_rem, if_neg (by omega), e]
theorem quo_pos (d : TypeDesc) {a b : Int} (ha : 0 ≤ a) (hb : 0 < b) (h : a ≤ 9223372036854775807) : binV d .quo (iv a) (iv b) = some (iv (a / b)) := by
  obtain ⟨n, rfl⟩ := Int.eq_ofNat_of_zero_le ha
  obtain ⟨m, rfl⟩ := Int.eq_ofNat_of_zero_le (show 0 ≤ b by omega)
  rw [quo_nat d (n := n) (m := m) (by omega) (by omega) rfl]; rfl
theorem rem_pos (d : TypeDesc) {a b : Int} (ha : 0 ≤ a) (hb : 0 < b) (h : a ≤ 9223372036854775807) : binV d .rem (iv a) (iv b) = some (iv (a % b)) := by
  obtain ⟨n, rfl⟩ := Int.eq_ofNat_of_zero_le ha
  obtain ⟨m, rfl⟩ := Int.eq_ofNat_of_zero_le (show 0 ≤ b by omega)
  rw [rem_nat d (n := n) (m := m) (by omega) (by omega) rfl]; rfl
theorem xor_i64 {n : Int} (h : -9223372036854775808 ≤ n ∧ n ≤ 9223372036854775807) : unV .xor (iv n) = some (iv (-(n + 1))) := by
  have e1 : BitVec.ofInt 64 (-1) = BitVec.allOnes 64 := by decide
  have e2 : ((BitVec.ofInt 64 (-1)) ^^^ (BitVec.ofInt 64 n)).toNat = 18446744073709551615 - (n % 18446744073709551616).toNat := by
    rw [e1, BitVec.allOnes_xor, BitVec.toNat_not, BitVec.toNat_ofInt]; rfl
  have e3 : unV .xor (iv n) = some (iv (IntKind.i64.wrap (((BitVec.ofInt 64 (-1)) ^^^ (BitVec.ofInt 64 n)).toNat : Int))) := rfl
  rw [e3, e2]
  congr 2
  unfold IntKind.wrap
  simp [IntKind.bits, IntKind.signed]
  omega
def andI (k : IntKind) (a b : Int) : Int := k.wrap ((BitVec.ofInt k.bits a) &&& (BitVec.ofInt k.bits b)).toNat
theorem binV_and (d : TypeDesc) (k : IntKind) (a b : Int) : binV d .and (.int k a) (.int k b) = some (.int k (andI k a b)) := by simp [binV, isSh, binI, andI]
theorem beq_dec (a b : Int) : (a == b) = decide (a = b) := by by_cases h : a = b <;> simp [h]
theorem bne_dec (a b : Int) : (a != b) = !decide (a = b) := by by_cases h : a = b <;> simp [h]

end Go.Al
