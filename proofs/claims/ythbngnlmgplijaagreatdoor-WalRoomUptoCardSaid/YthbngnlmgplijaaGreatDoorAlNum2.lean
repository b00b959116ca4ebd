/- Numbers of other kinds. -/
import Derived.Test.YthbngnlmgplijaaGreatDoorPgPure
namespace Go.Al
set_option linter.unusedVariables false
set_option linter.unusedSimpArgs false
set_option linter.unusedSectionVars false

abbrev uv (n : Nat) : Value := Value.int .u32 n
abbrev qv (n : Nat) : Value := Value.int .u64 n
theorem cvI_int (k j : IntKind) (n : Int) : cvI k (.int j n) = some (.int k (k.wrap n)) := rfl
theorem wrap_u32 {n : Nat} (h : n < 2 ^ 32) : IntKind.u32.wrap (n : Int) = n := by
  unfold IntKind.wrap; simp [IntKind.bits, IntKind.signed]; omega
theorem wrap_u64 {n : Nat} (h : n < 2 ^ 64) : IntKind.u64.wrap (n : Int) = n := by
  unfold IntKind.wrap; simp [IntKind.bits, IntKind.signed]; omega
theorem wrap_u64_mod (n : Nat) : IntKind.u64.wrap (n : Int) = ((n % 2 ^ 64 : Nat) : Int) := by
  unfold IntKind.wrap; simp [IntKind.bits, IntKind.signed]
theorem wrap_u8_mod (n : Nat) : IntKind.u8.wrap (n : Int) = ((n % 256 : Nat) : Int) := by
  unfold IntKind.wrap; simp [IntKind.bits, IntKind.signed]
theorem xor_u32 (d : TypeDesc) {a b : Nat} (ha : a < 2 ^ 32) (hb : b < 2 ^ 32) : binV d .xor (uv a) (uv b) = some (uv (a ^^^ b)) := by
  have : binV d .xor (uv a) (uv b) = some (.int .u32 (IntKind.u32.wrap ((BitVec.ofInt 32 (a : Int)) ^^^ (BitVec.ofInt 32 (b : Int))).toNat)) := rfl
  rw [this, BitVec.toNat_xor, ofInt_nat 32 a ha, ofInt_nat 32 b hb, wrap_u32 (Nat.xor_lt_two_pow ha hb)]
theorem and_u32 (d : TypeDesc) {a b : Nat} (ha : a < 2 ^ 32) (hb : b < 2 ^ 32) : binV d .and (uv a) (uv b) = some (uv (a &&& b)) := by
  have : binV d .and (uv a) (uv b) = some (.int .u32 (IntKind.u32.wrap ((BitVec.ofInt 32 (a : Int)) &&& (BitVec.ofInt 32 (b : Int))).toNat)) := rfl
  rw [this, BitVec.toNat_and, ofInt_nat 32 a ha, ofInt_nat 32 b hb, wrap_u32 (Nat.lt_of_le_of_lt Nat.and_le_left ha)]
theorem not_u32 {a : Nat} (ha : a < 2 ^ 32) : unV .xor (uv a) = some (uv (a ^^^ 4294967295)) := by
  have : unV .xor (uv a) = some (.int .u32 (IntKind.u32.wrap ((BitVec.ofInt 32 (4294967295 : Nat)) ^^^ (BitVec.ofInt 32 (a : Int))).toNat)) := rfl
  rw [this, BitVec.toNat_xor, ofInt_nat 32 a ha, ofInt_nat 32 4294967295 (by omega), Nat.xor_comm, wrap_u32 (Nat.xor_lt_two_pow ha (by omega))]
theorem shr_u32 (d : TypeDesc) {a k : Nat} (hk : k ≤ 32) (j : IntKind) {b : Int} (hb : b = (k : Int)) : binV d .shr (uv a) (.int j b) = some (uv (a / 2 ^ k)) := by
  subst hb
  have h0 : ¬ ((k : Int) < 0) := by omega
  have e : binV d .shr (uv a) (.int j k) = some (.int .u32 ((a : Int).fdiv (2 ^ (min (k : Int).toNat IntKind.u32.bits)))) := by
    rw [binV_shr]; unfold shV; rw [if_neg h0]
  rw [e]
  have e2 : min (k : Int).toNat IntKind.u32.bits = k := by show min (k : Int).toNat 32 = k; omega
  rw [e2]
  congr 2
  rw [Int.fdiv_eq_ediv_of_nonneg _ (by exact Int.pow_nonneg (by decide))]
  have : ((2 : Int) ^ k) = ((2 ^ k : Nat) : Int) := by push_cast; rfl
  rw [this]; rfl
theorem shl_u64 (d : TypeDesc) (a : Nat) (j : IntKind) : binV d .shl (qv a) (.int j 8) = some (qv (a * 256 % 2 ^ 64)) := by
  have e : binV d .shl (qv a) (.int j 8) = some (.int .u64 (IntKind.u64.wrap ((a : Int) * 2 ^ 8))) := rfl
  rw [e, show (a : Int) * 2 ^ 8 = ((a * 256 : Nat) : Int) by omega, wrap_u64_mod]
theorem or_u64 (d : TypeDesc) {a b : Nat} (ha : a < 2 ^ 64) (hb : b < 256) (hz : a % 256 = 0) : binV d .or (qv a) (qv b) = some (qv (a + b)) := by
  have : binV d .or (qv a) (qv b) = some (.int .u64 (IntKind.u64.wrap ((BitVec.ofInt 64 (a : Int)) ||| (BitVec.ofInt 64 (b : Int))).toNat)) := rfl
  rw [this, BitVec.toNat_or, ofInt_nat 64 a ha, ofInt_nat 64 b (by omega)]
  have e : a ||| b = a + b := by
    have := Nat.two_pow_add_eq_or_of_lt (i := 8) (b := b) (by omega) (a / 256)
    have h2 : 2 ^ 8 * (a / 256) = a := by omega
    rw [h2] at this
    exact this.symm
  rw [e, wrap_u64 (by omega)]
theorem top_u64 (d : TypeDesc) {a : Nat} (ha : a < 2 ^ 64) : binV d .andNot (qv a) (.int .u64 9223372036854775808) = some (qv (a % 2 ^ 63)) := by
  have : binV d .andNot (qv a) (.int .u64 9223372036854775808) = some (.int .u64 (IntKind.u64.wrap ((BitVec.ofInt 64 (a : Int)) &&& ~~~ (BitVec.ofInt 64 ((2 ^ 63 : Nat) : Int))).toNat)) := rfl
  rw [this, BitVec.toNat_and, BitVec.toNat_not, ofInt_nat 64 a ha, ofInt_nat 64 (2 ^ 63) (by omega)]
  have e : a &&& (2 ^ 64 - 1 - 2 ^ 63) = a % 2 ^ 63 := by
    have : 2 ^ 64 - 1 - 2 ^ 63 = 2 ^ 63 - 1 := by omega
    rw [this]; exact Nat.and_two_pow_sub_one_eq_mod a 63
  rw [e, wrap_u64 (by omega)]
theorem quo_u32 (d : TypeDesc) {a : Nat} (ha : a < 2 ^ 32) : binV d .quo (uv a) (.int .u32 2) = some (uv (a / 2)) := by
  rw [binV_quo, if_neg (by omega)]
  have : (a : Int).tdiv 2 = ((a / 2 : Nat) : Int) := by rw [Int.tdiv_eq_ediv_of_nonneg (by omega)]; rfl
  rw [this, wrap_u32 (by omega)]
theorem rem_u32 (d : TypeDesc) (a : Nat) : binV d .rem (uv a) (.int .u32 2) = some (uv (a % 2)) := by
  rw [binV_rem, if_neg (by omega)]
  have : (a : Int).tmod 2 = ((a % 2 : Nat) : Int) := by rw [Int.tmod_eq_emod_of_nonneg (by omega)]; rfl
  rw [this]
theorem beN_get : ∀ (k n i : Nat), i < k → (beN k n)[i]? = some (UInt8.ofNat (n / 256 ^ (k - 1 - i) % 256))
  | 0, _, _, h => by omega
  | k + 1, n, i, h => by
    rw [beN]
    by_cases hi : i < k
    · rw [List.getElem?_append_left (by rw [beN_len]; exact hi), beN_get k _ i hi]
      congr 3
      rw [Nat.div_div_eq_div_mul, ← Nat.pow_succ']
      congr 2
      omega
    · obtain rfl : i = k := by omega
      rw [List.getElem?_append_right (by rw [beN_len]; exact Nat.le_refl _), beN_len]
      simp
def bigB (n w : Int) : Bs := bif decide (w < 1) || decide (8 < w) || decide (n < 0) then [] else beN w.toNat n.toNat
theorem bigB_of {n w : Nat} (h1 : 1 ≤ w) (h8 : w ≤ 8) : bigB (n : Int) (w : Int) = beN w n := by
  unfold bigB
  rw [show (decide ((w : Int) < 1) || decide (8 < (w : Int)) || decide ((n : Int) < 0)) = false by simp; omega]
  simp
/-- The number of bytes, but for its highest bit. -/
def of64 (l : Bs) : Nat := l.foldl (fun n b => (n * 256 + b.toNat) % 2 ^ 64) 0
theorem of64_eq (l : Bs) : of64 l = ofB l % 2 ^ 64 := by
  have key : ∀ (l : Bs) (a b : Nat), a = b % 2 ^ 64 → l.foldl (fun n b => (n * 256 + b.toNat) % 2 ^ 64) a = l.foldl (fun n b => n * 256 + b.toNat) b % 2 ^ 64 := by
    intro l
    induction l with
    | nil => intro a b h; exact h
    | cons x l ih =>
      intro a b h
      refine ih _ _ ?_
      show (a * 256 + x.toNat) % 2 ^ 64 = (b * 256 + x.toNat) % 2 ^ 64
      omega
  exact key l 0 0 (by simp)
def ofN (l : Bs) : Nat := ofB l % 2 ^ 63
theorem ofN_short {l : Bs} (h : l.length ≤ 7) : ofN l = ofB l := by
  have := ofB_lt l.length l rfl
  have h2 : 256 ^ l.length ≤ 256 ^ 7 := Nat.pow_le_pow_right (by omega) h
  unfold ofN
  exact Nat.mod_eq_of_lt (by omega)

end Go.Al
