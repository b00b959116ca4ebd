/- Laid for one claim by slim.py out of: AlNum PgPure AlNum2 BitsPure AlLaw AlView AlStru AlView2 PgBits PgShelf PgPage PgEnc PgDec PgSame. -/
import Derived.Test.YthbngnlmgplijaaGreatDoorRDeA
namespace Go.Al
set_option linter.unusedVariables false
set_option linter.unusedSimpArgs false

abbrev iv (n : Int) : Value := Value.int .i64 n
theorem wrap_nat {n : Nat} (h : n ≤ 9223372036854775807) : IntKind.i64.wrap (n : Int) = n := wrap_id (by omega)
theorem quo_i64 (d : TypeDesc) {a b : Int} (hb : b ≠ 0) (h : -9223372036854775808 ≤ a.tdiv b ∧ a.tdiv b ≤ 9223372036854775807) : binV d .quo (iv a) (iv b) = some (iv (a.tdiv b)) := by
  rw [binV_quo, if_neg hb, wrap_id h]
theorem quo_nat (d : TypeDesc) {n m : Nat} (hm : 0 < m) (h : n ≤ 9223372036854775807) {b : Int} (hb : b = (m : Int)) : binV d .quo (iv n) (iv b) = some (iv ((n / m : Nat) : Int)) := by
  subst hb
  have e : (n : Int).tdiv (m : Int) = ((n / m : Nat) : Int) := by rw [Int.tdiv_eq_ediv_of_nonneg (by omega)]; rfl
  have hle : n / m ≤ n := Nat.div_le_self n m
  rw [quo_i64 d (by omega) (by rw [e]; generalize n / m = q at *; omega), e]
theorem rem_nat (d : TypeDesc) {n m : Nat} (hm : 0 < m) (h : n ≤ 9223372036854775807) {b : Int} (hb : b = (m : Int)) : binV d .rem (iv n) (iv b) = some (iv ((n % m : Nat) : Int)) := by
  subst hb
  have e : (n : Int).tmod (m : Int) = ((n % m : Nat) : Int) := by rw [Int.tmod_eq_emod_of_nonneg (by omega)]; rfl
  have hle : n % m ≤ n := Nat.mod_le n m
  rw [binV_rem, if_neg (by omega), e]
def andI (k : IntKind) (a b : Int) : Int := k.wrap ((BitVec.ofInt k.bits a) &&& (BitVec.ofInt k.bits b)).toNat
theorem binV_and (d : TypeDesc) (k : IntKind) (a b : Int) : binV d .and (.int k a) (.int k b) = some (.int k (andI k a b)) := by simp [binV, isSh, binI, andI]
theorem ofInt_nat (w n : Nat) (h : n < 2 ^ w) : (BitVec.ofInt w (n : Int)).toNat = n := by
  rw [BitVec.toNat_ofInt]
  have e : (((2 ^ w : Nat) : Int)) = (2 ^ w : Nat) := rfl
  rw [Int.emod_eq_of_lt (by omega) (by omega)]; rfl
def orI (k : IntKind) (a b : Int) : Int := k.wrap ((BitVec.ofInt k.bits a) ||| (BitVec.ofInt k.bits b)).toNat
theorem binV_or (d : TypeDesc) (k : IntKind) (a b : Int) : binV d .or (.int k a) (.int k b) = some (.int k (orI k a b)) := by simp [binV, isSh, binI, orI]
theorem and_u8 (a b : Nat) (ha : a < 256) (hb : b < 256) : andI .u8 a b = ((a &&& b : Nat) : Int) := by
  have h1 : (BitVec.ofInt 8 (a : Int)).toNat = a := ofInt_nat 8 a (by omega)
  have h2 : (BitVec.ofInt 8 (b : Int)).toNat = b := ofInt_nat 8 b (by omega)
  show IntKind.u8.wrap (((BitVec.ofInt 8 (a : Int)) &&& (BitVec.ofInt 8 (b : Int))).toNat : Int) = _
  rw [BitVec.toNat_and, h1, h2]
  have : a &&& b ≤ a := Nat.and_le_left
  generalize a &&& b = c at *
  unfold IntKind.wrap; simp [IntKind.bits, IntKind.signed]; omega
theorem or_lt {a b n : Nat} (ha : a < 2 ^ n) (hb : b < 2 ^ n) : a ||| b < 2 ^ n := Nat.or_lt_two_pow ha hb
theorem or_i64 (a b : Nat) (ha : a < 2 ^ 63) (hb : b < 2 ^ 63) : orI .i64 a b = ((a ||| b : Nat) : Int) := by
  have h1 : (BitVec.ofInt 64 (a : Int)).toNat = a := ofInt_nat 64 a (by omega)
  have h2 : (BitVec.ofInt 64 (b : Int)).toNat = b := ofInt_nat 64 b (by omega)
  show IntKind.i64.wrap (((BitVec.ofInt 64 (a : Int)) ||| (BitVec.ofInt 64 (b : Int))).toNat : Int) = _
  rw [BitVec.toNat_or, h1, h2]
  have := or_lt ha hb
  generalize a ||| b = c at *
  exact wrap_nat (by omega)
theorem or_u8 (a b : Nat) (ha : a < 256) (hb : b < 256) : orI .u8 a b = ((a ||| b : Nat) : Int) := by
  have h1 : (BitVec.ofInt 8 (a : Int)).toNat = a := ofInt_nat 8 a (by omega)
  have h2 : (BitVec.ofInt 8 (b : Int)).toNat = b := ofInt_nat 8 b (by omega)
  show IntKind.u8.wrap (((BitVec.ofInt 8 (a : Int)) ||| (BitVec.ofInt 8 (b : Int))).toNat : Int) = _
  rw [BitVec.toNat_or, h1, h2]
  have := or_lt (n := 8) ha hb
  generalize a ||| b = c at *
  unfold IntKind.wrap; simp [IntKind.bits, IntKind.signed]; omega
theorem beq_dec (a b : Int) : (a == b) = decide (a = b) := by by_cases h : a = b <;> simp [h]
theorem bne_dec (a b : Int) : (a != b) = !decide (a = b) := by by_cases h : a = b <;> simp [h]

end Go.Al

namespace Go.Al
set_option linter.unusedVariables false
set_option linter.unusedSimpArgs false
set_option linter.unusedSectionVars false

/-! ### The sum -/
def crcS (c : Nat) : Nat := (c / 2) ^^^ (if c % 2 = 1 then 3988292384 else 0)
def crcT : Nat → Nat → Nat
  | 0, c => c
  | k + 1, c => crcT k (crcS c)
def crcB (c : Nat) (b : UInt8) : Nat := crcT 8 (c ^^^ b.toNat)
def crcF (c : Nat) (l : Bs) : Nat := l.foldl crcB c
def crc (l : Bs) : Nat := crcF 4294967295 l ^^^ 4294967295
theorem crcS_lt {c : Nat} (h : c < 2 ^ 32) : crcS c < 2 ^ 32 := by
  unfold crcS
  refine Nat.xor_lt_two_pow (by omega) ?_
  split <;> omega
theorem crcT_lt : ∀ (k : Nat) {c : Nat}, c < 2 ^ 32 → crcT k c < 2 ^ 32
  | 0, _, h => h
  | k + 1, _, h => crcT_lt k (crcS_lt h)
theorem xor_byte {c : Nat} (h : c < 2 ^ 32) (b : UInt8) : c ^^^ b.toNat < 2 ^ 32 := Nat.xor_lt_two_pow h (by have := b.toNat_lt; omega)
theorem crcB_lt {c : Nat} (h : c < 2 ^ 32) (b : UInt8) : crcB c b < 2 ^ 32 := crcT_lt 8 (xor_byte h b)
theorem crcF_lt : ∀ (l : Bs) {c : Nat}, c < 2 ^ 32 → crcF c l < 2 ^ 32
  | [], _, h => h
  | b :: l, _, h => crcF_lt l (crcB_lt h b)
theorem crc_lt (l : Bs) : crc l < 2 ^ 32 := Nat.xor_lt_two_pow (crcF_lt l (by omega)) (by omega)
theorem crcS_xor (a b : Nat) : crcS (a ^^^ b) = crcS a ^^^ crcS b := by
  unfold crcS
  have h1 : (a ^^^ b) / 2 = a / 2 ^^^ b / 2 := by
    have := Nat.shiftRight_xor_distrib (a := a) (b := b) (i := 1)
    simpa [Nat.shiftRight_eq_div_pow] using this
  have h2 : (a ^^^ b) % 2 = (a % 2 ^^^ b % 2) := by
    have := Nat.xor_mod_two_pow (a := a) (b := b) (n := 1)
    simpa using this
  rw [h1, h2]
  have ha : a % 2 = 0 ∨ a % 2 = 1 := by omega
  have hb : b % 2 = 0 ∨ b % 2 = 1 := by omega
  rcases ha with ha | ha <;> rcases hb with hb | hb <;> rw [ha, hb] <;> simp
  · rw [Nat.xor_assoc]
  · rw [Nat.xor_assoc, Nat.xor_assoc, Nat.xor_comm (b / 2)]
  · rw [Nat.xor_assoc, Nat.xor_comm 3988292384, Nat.xor_assoc, Nat.xor_self, Nat.xor_zero]
theorem crcT_xor : ∀ (k a b : Nat), crcT k (a ^^^ b) = crcT k a ^^^ crcT k b
  | 0, _, _ => rfl
  | k + 1, a, b => by rw [crcT, crcS_xor, crcT_xor k]; rfl
theorem crcT_shift : ∀ (k x : Nat), crcT k (x * 2 ^ k) = x
  | 0, x => by simp [crcT]
  | k + 1, x => by
    rw [crcT]
    have : crcS (x * 2 ^ (k + 1)) = x * 2 ^ k := by
      unfold crcS
      rw [Nat.pow_succ, ← Nat.mul_assoc, Nat.mul_div_cancel _ (by omega), if_neg (by omega), Nat.xor_zero]
    rw [this]; exact crcT_shift k x
theorem split_byte (c : Nat) : c = (c / 256 * 256) ^^^ (c % 256) := by
  have h := Nat.two_pow_add_eq_or_of_lt (i := 8) (b := c % 256) (by omega) (c / 256)
  apply Nat.eq_of_testBit_eq
  intro i
  rw [Nat.testBit_xor, show c / 256 * 256 = (c / 256) * 2 ^ 8 from rfl, Nat.testBit_mul_two_pow, show c % 256 = c % 2 ^ 8 from rfl, Nat.testBit_mod_two_pow, show c / 256 = c / 2 ^ 8 from rfl, Nat.testBit_div_two_pow]
  by_cases hi : i < 8
  · simp [hi, show ¬ 8 ≤ i by omega]
  · simp [hi, show 8 ≤ i by omega]
/-- A byte at once. -/
theorem crcB_table (c : Nat) (b : UInt8) : crcB c b = c / 256 ^^^ crcT 8 (c % 256 ^^^ b.toNat) := by
  unfold crcB
  have h : c ^^^ b.toNat = (c / 256 * 256) ^^^ (c % 256 ^^^ b.toNat) := by rw [← Nat.xor_assoc, ← split_byte]
  rw [h, crcT_xor, show c / 256 * 256 = c / 256 * 2 ^ 8 from rfl, crcT_shift]
/-! ### Numbers as so many bytes -/
def beN : Nat → Nat → Bs
  | 0, _ => []
  | k + 1, n => beN k (n / 256) ++ [UInt8.ofNat (n % 256)]
def ofB (l : Bs) : Nat := l.foldl (fun n b => n * 256 + b.toNat) 0
theorem beN_len : ∀ (k n : Nat), (beN k n).length = k
  | 0, _ => rfl
  | k + 1, n => by rw [beN, List.length_append, beN_len]; rfl
theorem ofB_snoc (l : Bs) (b : UInt8) : ofB (l ++ [b]) = ofB l * 256 + b.toNat := by unfold ofB; rw [List.foldl_append]; rfl
theorem ofN_toNat {n : Nat} (h : n < 256) : (UInt8.ofNat n).toNat = n := by simp [Nat.mod_eq_of_lt h]
theorem ofB_beN : ∀ (k n : Nat), ofB (beN k n) = n % 256 ^ k
  | 0, n => by simp [beN, ofB, Nat.mod_one]
  | k + 1, n => by
    rw [beN, ofB_snoc, ofB_beN, ofN_toNat (by omega), Nat.pow_succ]
    rw [Nat.mul_comm (256 ^ k) 256, Nat.mod_mul]
    omega
theorem snoc_of : ∀ (k : Nat) (l : Bs), l.length = k + 1 → ∃ m b, l = m ++ [b] ∧ m.length = k := by
  intro k l h
  have hne : l ≠ [] := by rintro rfl; simp at h
  exact ⟨l.dropLast, l.getLast hne, (List.dropLast_concat_getLast hne).symm, by rw [List.length_dropLast, h]; rfl⟩
theorem beN_ofB : ∀ (k : Nat) (l : Bs), l.length = k → beN k (ofB l) = l
  | 0, l, h => by rw [List.eq_nil_of_length_eq_zero h]; rfl
  | k + 1, l, h => by
    obtain ⟨m, b, rfl, hm⟩ := snoc_of k l h
    have hb := b.toNat_lt
    rw [ofB_snoc, beN, show (ofB m * 256 + b.toNat) / 256 = ofB m by omega, show (ofB m * 256 + b.toNat) % 256 = b.toNat by omega, beN_ofB k m hm]
    congr 2
    exact UInt8.toNat_inj.1 (ofN_toNat (by omega))
theorem ofB_lt : ∀ (k : Nat) (l : Bs), l.length = k → ofB l < 256 ^ k := by
  intro k l h
  have := ofB_beN k (ofB l)
  rw [beN_ofB k l h] at this
  rw [this]
  exact Nat.mod_lt _ (Nat.pow_pos (by omega))
theorem beN1 (b : UInt8) : beN 1 b.toNat = [b] := by
  have := beN_ofB 1 [b] rfl
  have h : ofB [b] = b.toNat := by simp [ofB]
  rw [h] at this; exact this

/-! ### Pages -/
structure Pg where
  lsn : Int
  kind : Int
  level : Int
  right : Int
  high : Bs
  items : List Bs
deriving DecidableEq
def pg0 : Pg := ⟨0, 0, 0, 0, [], []⟩
def zeros (n : Nat) : Bs := List.replicate n 0
theorem zeros_len (n : Nat) : (zeros n).length = n := List.length_replicate
def itB (it : Bs) : Bs := beN 2 it.length ++ it
theorem itB_len (it : Bs) : (itB it).length = 2 + it.length := by rw [itB, List.length_append, beN_len]
def pSize (p : Pg) : Nat := p.items.foldl (fun n it => n + (2 + it.length)) (20 + p.high.length)
def pHead (p : Pg) : Bs := beN 8 p.lsn.toNat ++ (beN 1 p.kind.toNat ++ (beN 1 p.level.toNat ++ (beN 4 p.right.toNat ++ (beN 1 p.items.length ++ (beN 1 p.high.length ++ p.high)))))
def pBody (p : Pg) : Bs := pHead p ++ p.items.flatMap itB
def pText (p : Pg) : Bs := pBody p ++ zeros (508 - (pBody p).length)
def pErr (p : Pg) : Int :=
  bif decide (p.lsn < 0 ∨ p.level < 0 ∨ p.right < 0 ∨ p.kind < 1 ∨ 3 < p.kind ∨ 255 < p.level ∨ 4294967295 < p.right) then 4
  else bif decide (255 < p.high.length ∨ 255 < p.items.length ∨ 512 < pSize p) then 3 else 0
def pEnc (p : Pg) : Bs × Int := bif decide (pErr p = 0) then (beN 4 (crc (pText p)) ++ pText p, 0) else ([], pErr p)
theorem foldl_len (l : List Bs) (n : Nat) : l.foldl (fun n it => n + (2 + it.length)) n = n + (l.flatMap itB).length := by
  induction l generalizing n with
  | nil => simp
  | cons x l ih => rw [List.foldl_cons, ih, List.flatMap_cons, List.length_append, itB_len]; omega
theorem pHead_len (p : Pg) : (pHead p).length = 16 + p.high.length := by
  simp only [pHead, List.length_append, beN_len]; omega
theorem pBody_len (p : Pg) : (pBody p).length + 4 = pSize p := by
  rw [pSize, foldl_len, pBody, List.length_append, pHead_len]; omega
theorem pText_len {p : Pg} (h : pSize p ≤ 512) : (pText p).length = 508 := by
  have := pBody_len p
  rw [pText, List.length_append, zeros_len]; omega
theorem pErr_ok {p : Pg} (h : pErr p = 0) : (0 ≤ p.lsn ∧ 0 ≤ p.level ∧ 0 ≤ p.right ∧ 1 ≤ p.kind ∧ p.kind ≤ 3 ∧ p.level ≤ 255 ∧ p.right ≤ 4294967295) ∧ p.high.length ≤ 255 ∧ p.items.length ≤ 255 ∧ pSize p ≤ 512 := by
  unfold pErr at h
  cases h1 : decide (p.lsn < 0 ∨ p.level < 0 ∨ p.right < 0 ∨ p.kind < 1 ∨ 3 < p.kind ∨ 255 < p.level ∨ 4294967295 < p.right) with
  | true => rw [h1] at h; simp at h
  | false =>
    cases h2 : decide (255 < p.high.length ∨ 255 < p.items.length ∨ 512 < pSize p) with
    | true => rw [h1, h2] at h; simp at h
    | false =>
      rw [decide_eq_false_iff_not] at h1 h2
      omega
theorem pErr_of {p : Pg} (h : (0 ≤ p.lsn ∧ 0 ≤ p.level ∧ 0 ≤ p.right ∧ 1 ≤ p.kind ∧ p.kind ≤ 3 ∧ p.level ≤ 255 ∧ p.right ≤ 4294967295) ∧ p.high.length ≤ 255 ∧ p.items.length ≤ 255 ∧ pSize p ≤ 512) : pErr p = 0 := by
  unfold pErr
  rw [show decide (p.lsn < 0 ∨ p.level < 0 ∨ p.right < 0 ∨ p.kind < 1 ∨ 3 < p.kind ∨ 255 < p.level ∨ 4294967295 < p.right) = false by rw [decide_eq_false_iff_not]; omega, show decide (255 < p.high.length ∨ 255 < p.items.length ∨ 512 < pSize p) = false by rw [decide_eq_false_iff_not]; omega]
  rfl
theorem pEnc_ok {p : Pg} (h : pErr p = 0) : pEnc p = (beN 4 (crc (pText p)) ++ pText p, 0) := by unfold pEnc; rw [h]; rfl
theorem pEnc_bad {p : Pg} (h : pErr p ≠ 0) : pEnc p = ([], pErr p) := by
  unfold pEnc
  rw [show decide (pErr p = 0) = false by simpa using h]; rfl
theorem pEnc_len {p : Pg} (h : pErr p = 0) : (pEnc p).1.length = 512 := by
  rw [pEnc_ok h, List.length_append, beN_len, pText_len (pErr_ok h).2.2.2]
theorem pEnc_err (p : Pg) : (pEnc p).2 = pErr p := by
  by_cases h : pErr p = 0
  · rw [pEnc_ok h, h]
  · rw [pEnc_bad h]

/-! ### Reading -/
def pItems : Nat → Bs → Option (List Bs × Bs)
  | 0, s => some ([], s)
  | n + 1, s => bif decide (s.length < 2) then none
    else bif decide ((s.drop 2).length < ofB (s.take 2)) then none
    else (pItems n ((s.drop 2).drop (ofB (s.take 2)))).map fun x => ((s.drop 2).take (ofB (s.take 2)) :: x.1, x.2)
theorem take_beN (k n : Nat) (t : Bs) : (beN k n ++ t).take k = beN k n := by rw [List.take_append_of_le_length (by rw [beN_len]; exact Nat.le_refl _), List.take_of_length_le (by rw [beN_len]; exact Nat.le_refl _)]
theorem drop_beN (k n : Nat) (t : Bs) : (beN k n ++ t).drop k = t := List.drop_left' (beN_len k n)
theorem pItems_of : ∀ (l : List Bs) (t : Bs), (∀ it ∈ l, it.length < 65536) → pItems l.length (l.flatMap itB ++ t) = some (l, t)
  | [], t, _ => rfl
  | x :: l, t, h => by
    have hx := h x (by simp)
    have ih := pItems_of l t (fun it hi => h it (List.mem_cons_of_mem _ hi))
    rw [List.length_cons, pItems, List.flatMap_cons, itB]
    have e : (beN 2 x.length ++ x ++ l.flatMap itB ++ t) = beN 2 x.length ++ (x ++ (l.flatMap itB ++ t)) := by simp only [List.append_assoc]
    rw [e, take_beN, drop_beN, ofB_beN, Nat.mod_eq_of_lt (by omega)]
    rw [show decide ((beN 2 x.length ++ (x ++ (l.flatMap itB ++ t))).length < 2) = false by rw [decide_eq_false_iff_not, List.length_append, beN_len]; omega, cond_false]
    rw [show decide ((x ++ (l.flatMap itB ++ t)).length < x.length) = false by rw [decide_eq_false_iff_not, List.length_append]; omega, cond_false]
    rw [List.drop_left, List.take_left, ih]; rfl
theorem pItems_is : ∀ (n : Nat) (s : Bs) (l : List Bs) (t : Bs), pItems n s = some (l, t) → l.length = n ∧ s = l.flatMap itB ++ t ∧ ∀ it ∈ l, it.length < 65536
  | 0, s, l, t, h => by
    rw [pItems] at h; cases h
    exact ⟨rfl, rfl, by simp⟩
  | n + 1, s, l, t, h => by
    rw [pItems] at h
    cases h1 : decide (s.length < 2) with
    | true => rw [h1, cond_true] at h; cases h
    | false =>
    cases h2 : decide ((s.drop 2).length < ofB (s.take 2)) with
    | true => rw [h1, h2, cond_false, cond_true] at h; cases h
    | false =>
    rw [h1, h2, cond_false, cond_false] at h
    cases h3 : pItems n ((s.drop 2).drop (ofB (s.take 2))) with
    | none => rw [h3] at h; cases h
    | some q =>
      obtain ⟨l', t'⟩ := q
      rw [h3] at h
      cases h
      obtain ⟨g1, g2, g3⟩ := pItems_is n _ _ _ h3
      rw [decide_eq_false_iff_not] at h1 h2
      have hlt : ofB (s.take 2) < 256 ^ 2 := ofB_lt 2 _ (by rw [List.length_take]; omega)
      have hl : ((s.drop 2).take (ofB (s.take 2))).length = ofB (s.take 2) := by rw [List.length_take]; omega
      refine ⟨by simp [g1], ?_, ?_⟩
      · rw [List.flatMap_cons, itB, hl, beN_ofB 2 _ (by rw [List.length_take]; omega)]
        rw [List.append_assoc, List.append_assoc, ← g2, List.take_append_drop, List.take_append_drop]
      · intro it hi
        rcases List.mem_cons.1 hi with rfl | hi
        · rw [hl]; exact hlt
        · exact g3 it hi

def dLsn (d : Bs) : Nat := ofB ((d.drop 4).take 8)
def dKind (d : Bs) : Nat := (d.getD 12 0).toNat
def dLevel (d : Bs) : Nat := (d.getD 13 0).toNat
def dRight (d : Bs) : Nat := ofB ((d.drop 14).take 4)
def dMany (d : Bs) : Nat := (d.getD 18 0).toNat
def dHl (d : Bs) : Nat := (d.getD 19 0).toNat
def dHigh (d : Bs) : Bs := (d.drop 20).take (dHl d)
def dRest (d : Bs) : Bs := (d.drop 20).drop (dHl d)
def pDec (d : Bs) : Pg × Int :=
  bif decide (d.length ≠ 512) then (pg0, 31)
  else bif decide (beN 4 (crc (d.drop 4)) ≠ d.take 4) then (pg0, 30)
  else match pItems (dMany d) (dRest d) with
    | none => (pg0, 31)
    | some (l, t) => bif decide (t ≠ zeros t.length ∨ 127 < (d.getD 4 0).toNat ∨ dKind d < 1 ∨ 3 < dKind d) then (pg0, 31)
      else (⟨(dLsn d % 2 ^ 63 : Nat), dKind d, dLevel d, dRight d, dHigh d, l⟩, 0)

/-- 512 bytes, taken apart. -/
def parts (s l8 : Bs) (k v : UInt8) (r : Bs) (n h : UInt8) (tail : Bs) : Bs := s ++ (l8 ++ (k :: v :: (r ++ (n :: h :: tail))))
theorem parts_of {d : Bs} (h : d.length = 512) : ∃ s l8 k v r n hh tail, d = parts s l8 k v r n hh tail ∧ s.length = 4 ∧ l8.length = 8 ∧ r.length = 4 ∧ tail.length = 492 := by
  match d, h with
  | s0 :: s1 :: s2 :: s3 :: a0 :: a1 :: a2 :: a3 :: a4 :: a5 :: a6 :: a7 :: k :: v :: r0 :: r1 :: r2 :: r3 :: n :: hh :: tail, h =>
    exact ⟨[s0, s1, s2, s3], [a0, a1, a2, a3, a4, a5, a6, a7], k, v, [r0, r1, r2, r3], n, hh, tail, rfl, rfl, rfl, rfl, by simp only [List.length_cons] at h; omega⟩
theorem parts_is {s l8 r tail : Bs} {k v n h : UInt8} (hs : s.length = 4) (h8 : l8.length = 8) (hr : r.length = 4) :
    (parts s l8 k v r n h tail).take 4 = s ∧ (parts s l8 k v r n h tail).drop 4 = l8 ++ (k :: v :: (r ++ (n :: h :: tail))) ∧ dLsn (parts s l8 k v r n h tail) = ofB l8 ∧ dKind (parts s l8 k v r n h tail) = k.toNat ∧ dLevel (parts s l8 k v r n h tail) = v.toNat ∧
    dRight (parts s l8 k v r n h tail) = ofB r ∧ dMany (parts s l8 k v r n h tail) = n.toNat ∧ dHl (parts s l8 k v r n h tail) = h.toNat ∧ (parts s l8 k v r n h tail).drop 20 = tail ∧ (parts s l8 k v r n h tail).getD 4 0 = l8.getD 0 0 := by
  match s, hs, l8, h8, r, hr with
  | [s0, s1, s2, s3], _, [a0, a1, a2, a3, a4, a5, a6, a7], _, [r0, r1, r2, r3], _ => exact ⟨rfl, rfl, rfl, rfl, rfl, rfl, rfl, rfl, rfl, rfl⟩
theorem ofB_top {l8 : Bs} (h8 : l8.length = 8) : 127 < (l8.getD 0 0).toNat ↔ 9223372036854775808 ≤ ofB l8 := by
  match l8, h8 with
  | [a0, a1, a2, a3, a4, a5, a6, a7], _ =>
    have h0 := a0.toNat_lt
    have h1 := a1.toNat_lt
    have h2 := a2.toNat_lt
    have h3 := a3.toNat_lt
    have h4 := a4.toNat_lt
    have h5 := a5.toNat_lt
    have h6 := a6.toNat_lt
    have h7 := a7.toNat_lt
    show 127 < a0.toNat ↔ _
    simp only [ofB, List.foldl_cons, List.foldl_nil]
    omega
theorem pText_parts (p : Pg) (s : Bs) : s ++ pText p = parts s (beN 8 p.lsn.toNat) (UInt8.ofNat (p.kind.toNat % 256)) (UInt8.ofNat (p.level.toNat % 256)) (beN 4 p.right.toNat) (UInt8.ofNat (p.items.length % 256)) (UInt8.ofNat (p.high.length % 256)) (p.high ++ (p.items.flatMap itB ++ zeros (508 - (pBody p).length))) := by
  rw [pText, pBody, pHead, parts]
  simp only [List.append_assoc]
  rfl
theorem item_short {p : Pg} (h : pSize p ≤ 512) : ∀ it ∈ p.items, it.length < 65536 := by
  intro it hi
  rw [pSize, foldl_len] at h
  have : it.length ≤ (p.items.flatMap itB).length := by
    obtain ⟨l1, l2, e⟩ := List.append_of_mem hi
    rw [e, List.flatMap_append, List.flatMap_cons, List.length_append, List.length_append, itB_len]; omega
  omega
/-- What is written is read as it was. -/
theorem dec_enc {p : Pg} (h : pErr p = 0) (hl : p.lsn ≤ 9223372036854775807) : pDec (pEnc p).1 = (p, 0) := by
  obtain ⟨⟨b1, b2, b3, b4, b5, b6, b7⟩, b8, b9, b10⟩ := pErr_ok h
  have hlen := pEnc_len h
  rw [pEnc_ok h] at hlen ⊢
  simp only at hlen ⊢
  obtain ⟨q1, q2, q3, q4, q5, q6, q7, q8, q9, q10⟩ := parts_is (s := beN 4 (crc (pText p))) (l8 := beN 8 p.lsn.toNat) (k := UInt8.ofNat (p.kind.toNat % 256)) (v := UInt8.ofNat (p.level.toNat % 256)) (r := beN 4 p.right.toNat) (n := UInt8.ofNat (p.items.length % 256)) (h := UInt8.ofNat (p.high.length % 256)) (tail := p.high ++ (p.items.flatMap itB ++ zeros (508 - (pBody p).length))) (beN_len _ _) (beN_len _ _) (beN_len _ _)
  have hp := pText_parts p (beN 4 (crc (pText p)))
  have hd4 : (beN 4 (crc (pText p)) ++ pText p).drop 4 = pText p := drop_beN _ _ _
  generalize hD : beN 4 (crc (pText p)) ++ pText p = D at hlen hd4 hp
  rw [← hp] at q1 q2 q3 q4 q5 q6 q7 q8 q9 q10
  rw [ofN_toNat (by omega)] at q4 q5 q7 q8
  rw [ofB_beN] at q3 q6
  have hmany : dMany D = p.items.length := by rw [q7]; omega
  have hhl : dHl D = p.high.length := by rw [q8]; omega
  have hhigh : dHigh D = p.high := by rw [dHigh, q9, hhl, List.take_left]
  have hrest : dRest D = p.items.flatMap itB ++ zeros (508 - (pBody p).length) := by rw [dRest, q9, hhl, List.drop_left]
  have htop : ¬ 127 < (D.getD 4 0).toNat := by
    rw [q10, ofB_top (beN_len _ _), ofB_beN]; omega
  unfold pDec
  rw [show decide (D.length ≠ 512) = false by simpa using hlen, cond_false]
  rw [show decide (beN 4 (crc (D.drop 4)) ≠ D.take 4) = false by rw [hd4, q1]; simp, cond_false]
  rw [hmany, hrest, pItems_of _ _ (item_short b10)]
  simp only
  have hz : ¬ zeros (508 - (pBody p).length) ≠ zeros (zeros (508 - (pBody p).length)).length := by rw [zeros_len]; simp
  rw [show decide (zeros (508 - (pBody p).length) ≠ zeros (zeros (508 - (pBody p).length)).length ∨ 127 < (D.getD 4 0).toNat ∨ dKind D < 1 ∨ 3 < dKind D) = false by
    rw [decide_eq_false_iff_not]
    rintro (h | h | h | h)
    · exact hz h
    · exact htop h
    · omega
    · omega, cond_false]
  rw [q3, q4, q5, q6, hhigh]
  obtain ⟨lsn, kind, level, right, high, items⟩ := p
  simp only at b1 b2 b3 b4 b5 b6 b7 hl ⊢
  congr 2 <;> omega
/-- What is read is written as it was. -/
theorem enc_dec {d : Bs} (h : (pDec d).2 = 0) : pErr (pDec d).1 = 0 ∧ (pEnc (pDec d).1).1 = d ∧ (pDec d).1.lsn ≤ 9223372036854775807 := by
  unfold pDec at h ⊢
  cases h1 : decide (d.length ≠ 512) with
  | true => rw [h1, cond_true] at h; simp at h
  | false =>
  cases h2 : decide (beN 4 (crc (d.drop 4)) ≠ d.take 4) with
  | true => rw [h1, h2, cond_false, cond_true] at h; simp at h
  | false =>
  rw [h1, h2, cond_false, cond_false] at h
  simp only [cond_false]
  cases h3 : pItems (dMany d) (dRest d) with
  | none => rw [h3] at h; simp at h
  | some q =>
  obtain ⟨l, t⟩ := q
  rw [h3] at h
  simp only at h ⊢
  cases h4 : decide (t ≠ zeros t.length ∨ 127 < (d.getD 4 0).toNat ∨ dKind d < 1 ∨ 3 < dKind d) with
  | true => rw [h4, cond_true] at h; simp at h
  | false =>
  simp only [cond_false]
  have hlen : d.length = 512 := by simpa using h1
  have hsum : beN 4 (crc (d.drop 4)) = d.take 4 := by simpa using h2
  rw [decide_eq_false_iff_not] at h4
  have n1 : t = zeros t.length := Classical.byContradiction fun hne => h4 (.inl hne)
  have n2 : ¬ 127 < (d.getD 4 0).toNat := fun e => h4 (.inr (.inl e))
  have n3 : ¬ dKind d < 1 := fun e => h4 (.inr (.inr (.inl e)))
  have n4 : ¬ 3 < dKind d := fun e => h4 (.inr (.inr (.inr e)))
  obtain ⟨g1, g2, g3⟩ := pItems_is _ _ _ _ h3
  obtain ⟨s, l8, k, v, r, n, hh, tail, hd, es, e8, er, et⟩ := parts_of hlen
  obtain ⟨q1, q2, q3, q4, q5, q6, q7, q8, q9, q10⟩ := parts_is (k := k) (v := v) (n := n) (h := hh) (tail := tail) es e8 er
  rw [← hd] at q1 q2 q3 q4 q5 q6 q7 q8 q9 q10
  have hl8 : ofB l8 < 9223372036854775808 := by
    rw [q10, ofB_top e8] at n2; omega
  have hk := k.toNat_lt
  have hv := v.toNat_lt
  have hn := n.toNat_lt
  have hhh := hh.toNat_lt
  have hr := ofB_lt 4 r er
  have hhigh : (dHigh d).length = hh.toNat := by rw [dHigh, q9, q8, List.length_take, et]; omega
  have htail : tail = dHigh d ++ (l.flatMap itB ++ t) := by rw [← g2, dHigh, dRest, q9, List.take_append_drop]
  generalize hP : (⟨(dLsn d % 2 ^ 63 : Nat), dKind d, dLevel d, dRight d, dHigh d, l⟩ : Pg) = P
  have hbody : d.drop 4 = pBody P ++ t := by
    rw [q2, ← hP, pBody, pHead]
    simp only [Int.toNat_natCast, q3, q4, q5, q6, hhigh, g1, q7]
    rw [Nat.mod_eq_of_lt (show ofB l8 < 2 ^ 63 by omega), beN_ofB 8 l8 e8, beN_ofB 4 r er, beN1, beN1, beN1, beN1, htail]
    simp only [List.append_assoc, List.cons_append, List.nil_append]
  have hbl : (pBody P).length + t.length = 508 := by
    have := congrArg List.length hbody
    rw [List.length_append, List.length_drop, hlen] at this; omega
  have htz : t = zeros (508 - (pBody P).length) := by
    rw [show 508 - (pBody P).length = t.length by omega]
    exact n1
  have hsz : pSize P ≤ 512 := by have := pBody_len P; omega
  have hok : pErr P = 0 := by
    refine pErr_of ⟨?_, ?_, ?_, hsz⟩
    · rw [← hP]
      simp only
      omega
    · rw [← hP]; simp only; omega
    · rw [← hP]; simp only; omega
  refine ⟨hok, ?_, ?_⟩
  · rw [pEnc_ok hok]
    have ht : pText P = d.drop 4 := by rw [pText, ← htz, hbody]
    simp only
    rw [ht, hsum, List.take_append_drop]
  · omega

end Go.Al

namespace Go.Al
set_option linter.unusedVariables false
set_option linter.unusedSimpArgs false
set_option linter.unusedSectionVars false

abbrev uv (n : Nat) : Value := Value.int .u32 n
abbrev qv (n : Nat) : Value := Value.int .u64 n
theorem cvI_int (k j : IntKind) (n : Int) : cvI k (.int j n) = some (.int k (k.wrap n)) := rfl
theorem wrap_u32 {n : Nat} (h : n < 2 ^ 32) : IntKind.u32.wrap (n : Int) = n := by
  unfold IntKind.wrap; simp [IntKind.bits, IntKind.signed]; omega
theorem wrap_u64 {n : Nat} (h : n < 2 ^ 64) : IntKind.u64.wrap (n : Int) = n := by
  unfold IntKind.wrap; simp [IntKind.bits, IntKind.signed]; omega
theorem wrap_u64_mod (n : Nat) : IntKind.u64.wrap (n : Int) = ((n % 2 ^ 64 : Nat) : Int) := by
  unfold IntKind.wrap; simp [IntKind.bits, IntKind.signed]
theorem wrap_u8_mod (n : Nat) : IntKind.u8.wrap (n : Int) = ((n % 256 : Nat) : Int) := by
  unfold IntKind.wrap; simp [IntKind.bits, IntKind.signed]
theorem xor_u32 (d : TypeDesc) {a b : Nat} (ha : a < 2 ^ 32) (hb : b < 2 ^ 32) : binV d .xor (uv a) (uv b) = some (uv (a ^^^ b)) := by
  have : binV d .xor (uv a) (uv b) = some (.int .u32 (IntKind.u32.wrap ((BitVec.ofInt 32 (a : Int)) ^^^ (BitVec.ofInt 32 (b : Int))).toNat)) := rfl
  rw [this, BitVec.toNat_xor, ofInt_nat 32 a ha, ofInt_nat 32 b hb, wrap_u32 (Nat.xor_lt_two_pow ha hb)]
theorem and_u32 (d : TypeDesc) {a b : Nat} (ha : a < 2 ^ 32) (hb : b < 2 ^ 32) : binV d .and (uv a) (uv b) = some (uv (a &&& b)) := by
  have : binV d .and (uv a) (uv b) = some (.int .u32 (IntKind.u32.wrap ((BitVec.ofInt 32 (a : Int)) &&& (BitVec.ofInt 32 (b : Int))).toNat)) := rfl
  rw [this, BitVec.toNat_and, ofInt_nat 32 a ha, ofInt_nat 32 b hb, wrap_u32 (Nat.lt_of_le_of_lt Nat.and_le_left ha)]
theorem not_u32 {a : Nat} (ha : a < 2 ^ 32) : unV .xor (uv a) = some (uv (a ^^^ 4294967295)) := by
  have : unV .xor (uv a) = some (.int .u32 (IntKind.u32.wrap ((BitVec.ofInt 32 (4294967295 : Nat)) ^^^ (BitVec.ofInt 32 (a : Int))).toNat)) := rfl
  rw [this, BitVec.toNat_xor, ofInt_nat 32 a ha, ofInt_nat 32 4294967295 (by omega), Nat.xor_comm, wrap_u32 (Nat.xor_lt_two_pow ha (by omega))]
theorem shr_u32 (d : TypeDesc) {a k : Nat} (hk : k ≤ 32) (j : IntKind) {b : Int} (hb : b = (k : Int)) : binV d .shr (uv a) (.int j b) = some (uv (a / 2 ^ k)) := by
  subst hb
  have h0 : ¬ ((k : Int) < 0) := by omega
  have e : binV d .shr (uv a) (.int j k) = some (.int .u32 ((a : Int).fdiv (2 ^ (min (k : Int).toNat IntKind.u32.bits)))) := by
    rw [binV_shr]; unfold shV; rw [if_neg h0]
  rw [e]
  have e2 : min (k : Int).toNat IntKind.u32.bits = k := by show min (k : Int).toNat 32 = k; omega
  rw [e2]
  congr 2
  rw [Int.fdiv_eq_ediv_of_nonneg _ (by exact Int.pow_nonneg (by decide))]
  have : ((2 : Int) ^ k) = ((2 ^ k : Nat) : Int) := by push_cast; rfl
  rw [this]; rfl
theorem shl_u64 (d : TypeDesc) (a : Nat) (j : IntKind) : binV d .shl (qv a) (.int j 8) = some (qv (a * 256 % 2 ^ 64)) := by
  have e : binV d .shl (qv a) (.int j 8) = some (.int .u64 (IntKind.u64.wrap ((a : Int) * 2 ^ 8))) := rfl
  rw [e, show (a : Int) * 2 ^ 8 = ((a * 256 : Nat) : Int) by omega, wrap_u64_mod]
theorem or_u64 (d : TypeDesc) {a b : Nat} (ha : a < 2 ^ 64) (hb : b < 256) (hz : a % 256 = 0) : binV d .or (qv a) (qv b) = some (qv (a + b)) := by
  have : binV d .or (qv a) (qv b) = some (.int .u64 (IntKind.u64.wrap ((BitVec.ofInt 64 (a : Int)) ||| (BitVec.ofInt 64 (b : Int))).toNat)) := rfl
  rw [this, BitVec.toNat_or, ofInt_nat 64 a ha, ofInt_nat 64 b (by omega)]
  have e : a ||| b = a + b := by
    have := Nat.two_pow_add_eq_or_of_lt (i := 8) (b := b) (by omega) (a / 256)
    have h2 : 2 ^ 8 * (a / 256) = a := by omega
    rw [h2] at this
    exact this.symm
  rw [e, wrap_u64 (by omega)]
theorem top_u64 (d : TypeDesc) {a : Nat} (ha : a < 2 ^ 64) : binV d .andNot (qv a) (.int .u64 9223372036854775808) = some (qv (a % 2 ^ 63)) := by
  have : binV d .andNot (qv a) (.int .u64 9223372036854775808) = some (.int .u64 (IntKind.u64.wrap ((BitVec.ofInt 64 (a : Int)) &&& ~~~ (BitVec.ofInt 64 ((2 ^ 63 : Nat) : Int))).toNat)) := rfl
  rw [this, BitVec.toNat_and, BitVec.toNat_not, ofInt_nat 64 a ha, ofInt_nat 64 (2 ^ 63) (by omega)]
  have e : a &&& (2 ^ 64 - 1 - 2 ^ 63) = a % 2 ^ 63 := by
    have : 2 ^ 64 - 1 - 2 ^ 63 = 2 ^ 63 - 1 := by omega
    rw [this]; exact Nat.and_two_pow_sub_one_eq_mod a 63
  rw [e, wrap_u64 (by omega)]
theorem quo_u32 (d : TypeDesc) {a : Nat} (ha : a < 2 ^ 32) : binV d .quo (uv a) (.int .u32 2) = some (uv (a / 2)) := by
  rw [binV_quo, if_neg (by omega)]
  have : (a : Int).tdiv 2 = ((a / 2 : Nat) : Int) := by rw [Int.tdiv_eq_ediv_of_nonneg (by omega)]; rfl
  rw [this, wrap_u32 (by omega)]
theorem rem_u32 (d : TypeDesc) (a : Nat) : binV d .rem (uv a) (.int .u32 2) = some (uv (a % 2)) := by
  rw [binV_rem, if_neg (by omega)]
  have : (a : Int).tmod 2 = ((a % 2 : Nat) : Int) := by rw [Int.tmod_eq_emod_of_nonneg (by omega)]; rfl
  rw [this]
theorem beN_get : ∀ (k n i : Nat), i < k → (beN k n)[i]? = some (UInt8.ofNat (n / 256 ^ (k - 1 - i) % 256))
  | 0, _, _, h => by omega
  | k + 1, n, i, h => by
    rw [beN]
    by_cases hi : i < k
    · rw [List.getElem?_append_left (by rw [beN_len]; exact hi), beN_get k _ i hi]
      congr 3
      rw [Nat.div_div_eq_div_mul, ← Nat.pow_succ']
      congr 2
      omega
    · obtain rfl : i = k := by omega
      rw [List.getElem?_append_right (by rw [beN_len]; exact Nat.le_refl _), beN_len]
      simp
def bigB (n w : Int) : Bs := bif decide (w < 1) || decide (8 < w) || decide (n < 0) then [] else beN w.toNat n.toNat
theorem bigB_of {n w : Nat} (h1 : 1 ≤ w) (h8 : w ≤ 8) : bigB (n : Int) (w : Int) = beN w n := by
  unfold bigB
  rw [show (decide ((w : Int) < 1) || decide (8 < (w : Int)) || decide ((n : Int) < 0)) = false by simp; omega]
  simp
/-- The number of bytes, but for its highest bit. -/
def of64 (l : Bs) : Nat := l.foldl (fun n b => (n * 256 + b.toNat) % 2 ^ 64) 0
theorem of64_eq (l : Bs) : of64 l = ofB l % 2 ^ 64 := by
  have key : ∀ (l : Bs) (a b : Nat), a = b % 2 ^ 64 → l.foldl (fun n b => (n * 256 + b.toNat) % 2 ^ 64) a = l.foldl (fun n b => n * 256 + b.toNat) b % 2 ^ 64 := by
    intro l
    induction l with
    | nil => intro a b h; exact h
    | cons x l ih =>
      intro a b h
      refine ih _ _ ?_
      show (a * 256 + x.toNat) % 2 ^ 64 = (b * 256 + x.toNat) % 2 ^ 64
      omega
  exact key l 0 0 (by simp)
def ofN (l : Bs) : Nat := ofB l % 2 ^ 63
theorem ofN_short {l : Bs} (h : l.length ≤ 7) : ofN l = ofB l := by
  have := ofB_lt l.length l rfl
  have h2 : 256 ^ l.length ≤ 256 ^ 7 := Nat.pow_le_pow_right (by omega) h
  unfold ofN
  exact Nat.mod_eq_of_lt (by omega)

end Go.Al

namespace Go.Al
set_option linter.unusedVariables false
set_option linter.unusedSimpArgs false
set_option linter.unusedSectionVars false

/-- A number is read: its value, the rest, what was wrong (k bytes of it were read, which made n). -/
def rdN (most : Int) : Nat → Nat → Nat → Bs → Int × Bs × Int
  | 0, _, _, _ => (0, [], 11)
  | _ + 1, _, _, [] => (0, [], 10)
  | f + 1, k, n, b :: t =>
    let n' := n + (b.toNat % 128) * 128 ^ k
    bif decide (b = 0 ∧ 0 < k) then (0, [], 11)
    else bif decide (128 ≤ b.toNat) then rdN most f (k + 1) n' t
    else bif decide (max most 0 < (n' : Int)) then (0, [], 11)
    else (n', t, 0)
def rdNum (most : Int) (s : Bs) (e : Int) : Int × Bs × Int := bif decide (e = 0) then rdN most 9 0 0 s else (0, s, e)
def endE (s : Bs) (e : Int) : Int := bif decide (e = 0) && decide (0 < s.length) then 12 else e

def encN (n : Nat) : Bs := if 127 < n then UInt8.ofNat (n % 128 + 128) :: encN (n / 128) else [UInt8.ofNat n]
termination_by n
decreasing_by omega
theorem encN_small {n : Nat} (h : n ≤ 127) : encN n = [UInt8.ofNat n] := by rw [encN, if_neg (by omega)]
theorem encN_big {n : Nat} (h : 127 < n) : encN n = UInt8.ofNat (n % 128 + 128) :: encN (n / 128) := by rw [encN, if_pos h]
theorem encN_len : ∀ (f n : Nat), n < 128 ^ f → (encN n).length ≤ max f 1
  | 0, n, h => by rw [encN_small (by omega)]; simp
  | f + 1, n, h => by
    by_cases hn : 127 < n
    · rw [encN_big hn, List.length_cons]
      have := encN_len f (n / 128) (by rw [Nat.div_lt_iff_lt_mul (by omega)]; rw [Nat.pow_succ] at h; exact h)
      have hf : f ≠ 0 := by rintro rfl; simp at h; omega
      omega
    · rw [encN_small (by omega)]; simp
theorem encN_le {n : Nat} (h : n ≤ 9223372036854775807) : 1 ≤ (encN n).length ∧ (encN n).length ≤ 9 := by
  have := encN_len 9 n (by omega)
  refine ⟨?_, by omega⟩
  by_cases hn : 127 < n
  · rw [encN_big hn]; simp
  · rw [encN_small (by omega)]; simp
theorem u8_ofNat {n : Nat} (h : n < 256) : (UInt8.ofNat n).toNat = n := by simp [Nat.mod_eq_of_lt h]
/-- What was laid is read. -/
theorem rdN_enc (most : Int) : ∀ (f k n m : Nat) (t : Bs), n < 128 ^ f → 0 < f → (0 < k → 0 < n) → (m + n * 128 ^ k : Nat) ≤ max most 0 → rdN most f k m (encN n ++ t) = (((m + n * 128 ^ k : Nat) : Int), t, 0)
  | 0, k, n, m, t, h, h0, hk, hm => by omega
  | f + 1, k, n, m, t, h, h0, hk, hm => by
    by_cases hn : 127 < n
    · rw [encN_big hn, List.cons_append, rdN]
      have e1 : (UInt8.ofNat (n % 128 + 128)).toNat = n % 128 + 128 := u8_ofNat (by omega)
      have hne : decide (UInt8.ofNat (n % 128 + 128) = 0 ∧ 0 < k) = false := by
        rw [decide_eq_false_iff_not]
        rintro ⟨h, _⟩
        have := congrArg UInt8.toNat h
        rw [e1] at this; simp at this
      simp only [e1, hne, cond_false, show decide (128 ≤ n % 128 + 128) = true by simp, cond_true, Nat.add_mod_right, Nat.mod_mod]
      have hd : n / 128 < 128 ^ f := by rw [Nat.div_lt_iff_lt_mul (by omega)]; rw [Nat.pow_succ] at h; exact h
      have hf : 0 < f := by
        rcases Nat.eq_zero_or_pos f with rfl | hf
        · simp at h; omega
        · exact hf
      have key : m + n % 128 * 128 ^ k + n / 128 * 128 ^ (k + 1) = m + n * 128 ^ k := by
        have hdm := Nat.div_add_mod n 128
        calc m + n % 128 * 128 ^ k + n / 128 * 128 ^ (k + 1) = m + (128 * (n / 128) + n % 128) * 128 ^ k := by rw [Nat.pow_succ, Nat.add_mul]; simp only [Nat.mul_assoc, Nat.mul_comm, Nat.mul_left_comm]; omega
          _ = m + n * 128 ^ k := by rw [hdm]
      have := rdN_enc most f (k + 1) (n / 128) (m + n % 128 * 128 ^ k) t hd hf (fun _ => by omega) (by rw [key]; exact hm)
      rw [this, key]
    · rw [encN_small (by omega), List.cons_append, List.nil_append, rdN]
      have e1 : (UInt8.ofNat n).toNat = n := u8_ofNat (by omega)
      have hne : decide (UInt8.ofNat n = 0 ∧ 0 < k) = false := by
        rw [decide_eq_false_iff_not]
        rintro ⟨h, h2⟩
        have := congrArg UInt8.toNat h
        rw [e1] at this
        have := hk h2
        simp_all
      have e2 : n % 128 = n := Nat.mod_eq_of_lt (by omega)
      have e3 : decide (max most 0 < ((m + n * 128 ^ k : Nat) : Int)) = false := by rw [decide_eq_false_iff_not]; omega
      simp only [e1, hne, cond_false, show decide (128 ≤ n) = false by rw [decide_eq_false_iff_not]; omega, e2, e3]
theorem rdN_in (most : Int) : ∀ (f k n : Nat) (s : Bs), 0 ≤ (rdN most f k n s).1 ∧ (rdN most f k n s).1 ≤ max most 0 ∧ (rdN most f k n s).2.1.length ≤ s.length
  | 0, k, n, s => by simp [rdN]; omega
  | f + 1, k, n, [] => by simp [rdN]; omega
  | f + 1, k, n, b :: t => by
    rw [rdN]
    cases h1 : decide (b = 0 ∧ 0 < k) with
    | true => simp only [cond_true]; simp; omega
    | false =>
      simp only [cond_false]
      cases h2 : decide (128 ≤ b.toNat) with
      | true =>
        simp only [cond_true]
        have := rdN_in most f (k + 1) (n + b.toNat % 128 * 128 ^ k) t
        refine ⟨this.1, this.2.1, by simp; omega⟩
      | false =>
        simp only [cond_false]
        cases h3 : decide (max most 0 < ((n + b.toNat % 128 * 128 ^ k : Nat) : Int)) with
        | true => simp only [cond_true]; simp; omega
        | false =>
          simp only [cond_false]
          rw [decide_eq_false_iff_not] at h3
          refine ⟨by omega, by omega, by simp⟩

theorem or_add {n c k : Nat} (h : n < 2 ^ k) : n ||| (c * 2 ^ k) = n + c * 2 ^ k := by
  have := Nat.two_pow_add_eq_or_of_lt h c
  rw [Nat.or_comm, Nat.mul_comm c, ← this]; omega
theorem and127 (n : Nat) : n &&& 127 = n % 128 := Nat.and_two_pow_sub_one_eq_mod n 7
theorem or128 {n : Nat} (h : n < 256) : n ||| 128 = n % 128 + 128 := by
  have h1 : n = 128 * (n / 128) + n % 128 := (Nat.div_add_mod n 128).symm
  have h2 : n / 128 = 0 ∨ n / 128 = 1 := by omega
  rcases h2 with h2 | h2
  · have h3 : n < 2 ^ 7 := by omega
    have := or_add (c := 1) h3
    simp at this
    rw [this]; omega
  · have h4 := or_add (n := n % 128) (c := 1) (k := 7) (by omega)
    simp at h4
    have h5 : n = n % 128 ||| 128 := by rw [h4]; omega
    rw [h5, Nat.or_assoc, Nat.or_self, ← h5]; omega
theorem ixS_str {s : Bs} {k : Nat} {b : UInt8} (h : s[k]? = some b) (i : IntKind) : ixS (stv s) (.int i k) = some (.int .u8 b.toNat) := by
  have hl := (List.getElem?_eq_some_iff.1 h).1
  have hk : k < (str s).size := by rw [str_size]; exact hl
  have h1 : (str s)[k]? = some b := by
    rw [getElem?_pos (str s) k hk]
    have h2 : (str s)[k] = s[k] := rfl
    rw [h2]
    rw [List.getElem?_eq_getElem hl] at h; exact h
  simp [ixS, h1]
theorem shl_nat (a k : Nat) (h : a * 2 ^ k ≤ 9223372036854775807) (hk : k ≤ 64) (d : TypeDesc) (j : IntKind) : binV d .shl (iv a) (.int j k) = some (iv ((a * 2 ^ k : Nat) : Int)) := by
  have h0 : ¬ ((k : Int) < 0) := by omega
  have e : binV d .shl (iv a) (.int j k) = some (iv (IntKind.i64.wrap ((a : Int) * 2 ^ (min (k : Int).toNat IntKind.i64.bits)))) := by
    rw [binV_shl]; unfold shV; rw [if_neg h0]
  rw [e]
  have e2 : min (k : Int).toNat IntKind.i64.bits = k := by show min (k : Int).toNat 64 = k; omega
  rw [e2]
  have e3 : (a : Int) * 2 ^ k = ((a * 2 ^ k : Nat) : Int) := by push_cast; rfl
  rw [e3, wrap_nat h]
theorem shr_nat (a k : Nat) (hk : k ≤ 64) (d : TypeDesc) (j : IntKind) : binV d .shr (iv a) (.int j k) = some (iv ((a / 2 ^ k : Nat) : Int)) := by
  have h0 : ¬ ((k : Int) < 0) := by omega
  have e : binV d .shr (iv a) (.int j k) = some (iv ((a : Int).fdiv (2 ^ (min (k : Int).toNat IntKind.i64.bits)))) := by
    rw [binV_shr]; unfold shV; rw [if_neg h0]
  rw [e]
  have e2 : min (k : Int).toNat IntKind.i64.bits = k := by show min (k : Int).toNat 64 = k; omega
  rw [e2]
  congr 2
  rw [Int.fdiv_eq_ediv_of_nonneg _ (by exact Int.pow_nonneg (by decide))]
  have : ((2 : Int) ^ k) = ((2 ^ k : Nat) : Int) := by push_cast; rfl
  rw [this]; rfl

end Go.Al

namespace Go.Al
set_option linter.unusedVariables false
set_option linter.unusedSimpArgs false
set_option linter.unusedSectionVars false
open Go.ChangeShapes Go.WideShapes Go.ChangeAt Go.RowKit

theorem trodAll_below {H : Type} {enc : TypeId × Value → H} {P : Program} (hl : laidOutB P = true) {W W' : World} (hb : Below W.heap.size W W') :
    ∀ {ts : List TypeId} {vs : List Value} {ds : List (DataW H)} {ps : List MemPlace}, (∀ t ∈ ts, P.readableRec t = true ∧ t < P.types.size) → DataW.TrodAll enc P W 0 (fun _ => true) true ts vs ds ps → (∀ x ∈ ps, x.block < W.heap.size) →
      DataW.TrodAll enc P W' 0 (fun b => decide (b < W.heap.size)) true ts vs ds ps
  | [], [], [], _, _, h, _ => h
  | t :: ts, v :: vs, d :: ds, ps, hr, h, hlt => by
    obtain ⟨p, q, h1, h2, rfl⟩ := h
    exact ⟨p, q, Below.trod hl (hr t (by simp)).1 (hr t (by simp)).2 h1 hb (fun x hx => hlt x (by simp [hx])), trodAll_below hl hb (fun t ht => hr t (by simp [ht])) h2 (fun x hx => hlt x (by simp [hx])), rfl⟩
  | [], _ :: _, _, _, _, h, _ => by cases h
  | [], [], _ :: _, _, _, h, _ => by cases h
  | _ :: _, [], _, _, _, h, _ => by cases h
  | _ :: _, _ :: _, [], _, _, h, _ => by cases h

theorem cl_true {P : Program} {g : FuncId} {args : Array Value} {w : World} (h : Cl P g args.toList w fun v w' => v = .bool true ∧ Fm (fun _ => False) w w') :
    Calls P g args w fun e w' => e = .returned (.bool true) ∧ Below w.heap.size w w' := by
  have := h.out
  unfold Cl0 at this
  simp only [Array.toArray_toList] at this
  refine this.mono fun e w' he => ?_
  cases e with
  | returned v => exact ⟨by rw [he.1], he.2.below⟩
  | panicked c => exact he.elim
  | outgrown => exact he.elim

/-- What the row hands a law. -/
structure LawIn {H : Type} (enc : TypeId × Value → H) (P : Program) (ts : List TypeId) (W : World) (args : List Value) (ds : List (DataW H)) (p : List MemPlace) : Prop where
  trod : DataW.TrodAll enc P W 0 (fun _ => true) true ts args ds p
  ok : ∃ base, ∀ (j : Nat) t v, ts[j]? = some t → args[j]? = some v → Value.okWide P W .any base t v
  sized : (DataW.weightsEach P ts ds).all (· ≤ reachBytes) = true
  lt : ∀ x ∈ p, x.block < W.heap.size

theorem law_lifted {H : Type} {enc : TypeId × Value → H} {C : Checked} {os : Os} {f : FuncId} {fn : Func} {s : ChangeSpec} {conds : List PathCond} {tb : TypeId} (own : ownKnob C.prog.godebug = none) (started : os.Started) (noInit : C.prog.inits.idxOf? f = none) (hfn : C.prog.funcs[f]? = some fn)
    (hlaid : laidOutB C.prog = true)
    (witness : ∃ (w : World) (tape : Tape) (i : Input), w.os = os ∧ (w.forCall tape i).Shaped C.prog ∧ i.vars = [] ∧ Input.okWide C.prog (w.forCall tape i) .any w.heap.size f i ∧
      s.pre6 enc C.prog fn conds false (w.forCall tape i).memory i.args ∧ ({} : Assume).holds C.prog (lone (Frame.enter C.prog f i.args .normal) [] (w.forCall tape i)))
    (hres : fn.resultTypes = #[tb]) (hbool : C.prog.underlying tb = some .bool) (hvars : s.vars = [])
    (hrow : ∀ t ∈ fn.params.toList, C.prog.readableRec t = true ∧ t < C.prog.types.size)
    (hs : ∀ ds : List (DataW H), ds.length = fn.params.toList.length → s.fn H ds = { results := [.lit (.bool true)], args := ds, vars := [] })
    (law : ∀ (W : World) (args : List Value) (ds : List (DataW H)) (p : List MemPlace), LawIn enc C.prog fn.params.toList W args ds p → Cl C.prog f args W fun v w' => v = .bool true ∧ Fm (fun _ => False) W w') :
    ReturnsInHanded {} C os f .any (s.pre6 enc C.prog fn conds false) (s.post enc C.prog fn false true false false) := by
  refine returnsInHanded_of_change_sized own started noInit hfn witness ?_
  intro W base args ds gs before hval hW hcnd hsz _
  have hW' := hW
  obtain ⟨p, q, hA, hV, rfl, hfz, hnd⟩ := hW
  rw [hvars] at hV
  obtain ⟨rfl, rfl⟩ := trodVars_none hV
  have hty : s.plain.varTypes C.prog = [] := by simp [DataSpec.varTypes, ChangeSpec.plain, hvars]
  simp only [hty, List.append_nil] at hsz
  have hlt : ∀ x ∈ p, x.block < W.heap.size := fun x hx => hW'.lt x (by simp [hx])
  have hlen := (trodAll_length hA).2
  refine (cl_true (law W args.toList ds p ⟨hA, ⟨base, fun j t v hj hv => hval j t v (by simpa using hj) (by simpa using hv)⟩, hsz, hlt⟩)).mono fun e W' ⟨he, hb⟩ => ?_
  subst he
  refine ⟨_, rfl, ds, [], p ++ [], [], p, [], hW', ?_, ?_, ?_, hb.frame _, fun h => by cases h⟩
  · rw [List.append_nil, hs ds hlen, hres]
    exact trodAll_cons_mk (shut_bool hbool _) trodAll_mk0
  · rw [List.append_nil, hs ds hlen]
    exact trodAll_below hlaid hb hrow hA hlt
  · rw [List.append_nil, hs ds hlen, hvars]; trivial

end Go.Al

namespace Go.Al
set_option linter.unusedVariables false
set_option linter.unusedSimpArgs false
set_option linter.unusedSectionVars false
open Go.ChangeShapes Go.WideShapes Go.ChangeAt Go.RowKit

/-- A view of a type's cells as a thing of α. -/
structure Vw (P : Program) (t : TypeId) (α : Type) where
  rel : World → List Value → α → Prop
  keep : ∀ {w w' : World} {cs : List Value} {x : α}, rel w cs x → Fm (fun _ => False) w w' → rel w' cs x
  len : ∀ {w : World} {cs : List Value} {x : α}, rel w cs x → cs.length = P.cellsOf t
  opens : ∀ {H : Type} {enc : TypeId × Value → H} {w : World} {base : Nat} {spare : Nat → Bool} {held : Bool} {fuel : Nat} {cs : List Value} {y : DataW H × List MemPlace},
    DataW.trod enc P w base spare held fuel t cs = some y → (∀ n ∈ y.1.weights P t, n ≤ reachBytes) → ∃ x, rel w cs x

def vInt {P : Program} {t : TypeId} (k : IntKind) (ht : P.underlying t = some (.int k)) (hc : P.cellsOf t = 1) : Vw P t Int where
  rel := fun _ cs x => cs = [.int k x] ∧ (Lit.int k x).wf = true
  keep := fun h _ => h
  len := fun h => by rw [h.1, hc]; rfl
  opens := fun h _ => by
    obtain ⟨n, h1, h2, h3⟩ := DataW.trod_int ht h
    exact ⟨n, h1, h3⟩
def vBool {P : Program} {t : TypeId} (ht : P.underlying t = some .bool) (hc : P.cellsOf t = 1) : Vw P t Bool where
  rel := fun _ cs x => cs = [.bool x]
  keep := fun h _ => h
  len := fun h => by rw [h, hc]; rfl
  opens := fun h _ => by
    obtain ⟨n, h1, h2⟩ := DataW.trod_bool ht h
    exact ⟨n, h1⟩
def vStr {P : Program} {t : TypeId} (ht : P.underlying t = some .string) (hc : P.cellsOf t = 1) : Vw P t Bs where
  rel := fun _ cs x => cs = [stv x] ∧ x.length ≤ reachBytes
  keep := fun h _ => h
  len := fun h => by rw [h.1, hc]; rfl
  opens := fun h hw => by
    obtain ⟨s, h1, h2, _⟩ := DataW.trod_string ht h
    subst h2
    refine ⟨s.data.toList, by rw [h1, stv, str_data], hw _ (by simp [DataW.weights])⟩

theorem weightsAll_mem {H : Type} {P : Program} {e : TypeId} {d : DataW H} {n : Nat} (hn : n ∈ d.weights P e) : ∀ {l : List (DataW H)}, d ∈ l → n ∈ DataW.weightsAll P e l
  | [], h => by cases h
  | x :: l, h => by
    rw [DataW.weightsAll, List.mem_append]
    rcases List.mem_cons.1 h with rfl | h
    · exact .inl hn
    · exact .inr (weightsAll_mem hn h)

/-- A slice whose elements are viewed. -/
structure SliceAs {P : Program} {e : TypeId} {α : Type} (A : Vw P e α) (w : World) (v : Value) (xs : List α) : Prop where
  ex : ∃ a cap, v = .slice a xs.length cap ∧ xs.length ≤ cap ∧ cap ≤ maxLen ∧ (a = none → xs.length = 0 ∧ cap = 0) ∧
    ∀ i x, xs[i]? = some x → ∃ ad cs', a = some ad ∧ A.rel w cs' x ∧ ∀ j, j < P.cellsOf e → w.cell? (ad.add (i * P.cellsOf e + j)) = cs'[j]?
  small : xs.length * P.bytesOf e ≤ reachBytes
theorem SliceAs.keep {P : Program} {e : TypeId} {α : Type} {A : Vw P e α} {w w' : World} {v : Value} {xs : List α} (h : SliceAs A w v xs) (hf : Fm (fun _ => False) w w') : SliceAs A w' v xs := by
  obtain ⟨⟨a, cap, h1, h2, h3, h4, h5⟩, hs⟩ := h
  refine ⟨⟨a, cap, h1, h2, h3, h4, fun i x hi => ?_⟩, hs⟩
  obtain ⟨ad, cs', g1, g2, g3⟩ := h5 i x hi
  refine ⟨ad, cs', g1, A.keep g2 hf, fun j hj => ?_⟩
  have := g3 j hj
  have hl := A.len g2
  rw [List.getElem?_eq_getElem (by omega)] at this ⊢
  exact hf.cell' this (fun e => e)
def vSlice {P : Program} {t e : TypeId} {α : Type} (ht : P.underlying t = some (.slice e)) (hc : P.cellsOf t = 1) (A : Vw P e α) : Vw P t (List α) where
  rel := fun w cs xs => ∃ v, cs = [v] ∧ SliceAs A w v xs
  keep := fun ⟨v, h1, h2⟩ hf => ⟨v, h1, h2.keep hf⟩
  len := fun ⟨v, h1, _⟩ => by rw [h1, hc]; rfl
  opens := fun {H enc w base spare held fuel cs y} h hw => by
    rcases Deep.open_slice ht h with ⟨rfl, rfl⟩ | ⟨a, len, cap, m, n, D, Pl, rfl, _, hl, hcap, hm, rfl, hx⟩
    · exact ⟨[], _, rfl, ⟨none, 0, rfl, by simp, by simp [maxLen], fun _ => ⟨rfl, rfl⟩, fun i x hi => by simp at hi⟩, by simp⟩
    · have hlm : len ≤ m := by rw [hm]; split <;> omega
      have hwt : ∀ i, i < len → ∀ q ∈ (D i).weights P e, q ≤ reachBytes := fun i hi q hq => hw q (by
        simp only [DataW.weights, ht, List.mem_cons, List.mem_append]
        exact .inr (.inl (weightsAll_mem hq (List.mem_map.2 ⟨i, by simpa using hi, rfl⟩))))
      have hsm : len * P.bytesOf e ≤ reachBytes := by
        have := hw ((((List.range len).map D).length + ((List.range (m - len)).map fun j => D (len + j)).length) * P.bytesOf e) (by simp [DataW.weights, ht])
        refine Nat.le_trans (Nat.mul_le_mul_right _ ?_) this
        simp
      have key : ∀ i, i < len → ∃ x : α × List Value, A.rel w x.2 x.1 ∧ ∀ j, j < P.cellsOf e → w.cell? (a.add (i * P.cellsOf e + j)) = x.2[j]? := by
        intro i hi
        obtain ⟨cs', h1, h2⟩ := hx i (by omega)
        obtain ⟨_, hlen, hat⟩ := World.cells?_some h1
        obtain ⟨x, hxr⟩ := A.opens h2 (hwt i hi)
        exact ⟨(x, cs'), hxr, fun j hj => by rw [← add_add, hat j hj]⟩
      refine ⟨List.ofFn (n := len) (fun i => (Classical.choose (key i i.2)).1), _, rfl, ⟨some a, cap, by simp, by simpa using hl, hcap, fun e => by simp at e, fun i x hi => ?_⟩, by simpa using hsm⟩
      rw [List.getElem?_ofFn] at hi
      split at hi
      · rename_i hi1
        simp only [Option.some.injEq] at hi
        subst hi
        have hk := Classical.choose_spec (key i hi1)
        exact ⟨a, _, rfl, hk.1, hk.2⟩
      · cases hi

/-- A view of a struct's fields from cell o on. -/
structure Fv (P : Program) (fs : List Field) (o : Nat) (α : Type) where
  c : Nat
  rel : World → List Value → α → Prop
  keep : ∀ {w w' : World} {cs : List Value} {x : α}, rel w cs x → Fm (fun _ => False) w w' → rel w' cs x
  len : ∀ {w : World} {cs : List Value} {x : α}, rel w cs x → cs.length = c
  opens : ∀ {H : Type} {enc : TypeId × Value → H} {w : World} {base : Nat} {spare : Nat → Bool} {held : Bool} {n : Nat} {cs0 : List Value} {ys : List (DataW H × List MemPlace)},
    (∀ (i : Nat) (f : Field), fs[i]? = some f → DataW.trod enc P w base spare held n f.type ((cs0.drop f.offset).take (P.cellsOf f.type)) = ys[i]?) → ys.length = fs.length →
    (∀ (i : Nat) (f : Field) (y : DataW H × List MemPlace), fs[i]? = some f → ys[i]? = some y → ∀ n ∈ y.1.weights P f.type, n ≤ reachBytes) → ∃ x, rel w ((cs0.drop o).take c) x
/-- A struct whose fields are viewed. -/
def vStruct {P : Program} {t : TypeId} {fs : Array Field} {α : Type} (ht : P.underlying t = some (.struct fs)) (F : Fv P fs.toList 0 α) (hc : P.cellsOf t = F.c) : Vw P t α where
  rel := F.rel
  keep := F.keep
  len := fun h => by rw [hc]; exact F.len h
  opens := fun {H enc w base spare held fuel cs y} h hw => by
    obtain ⟨xs, n, _, rfl, hl, hlen, hf⟩ := DataW.trod_struct ht h
    obtain ⟨x, hx⟩ := F.opens (enc := enc) (w := w) (base := base) (spare := spare) (held := held) (n := n) (cs0 := cs) (ys := xs) (fun i f hi => hf i f (by simpa using hi)) (by simpa using hlen) (fun i f y hi hy q hq => hw q (by
      simp only [DataW.weights, ht]
      exact DataW.weights_mem_each (j := i) (t := f.type) (d := y.1) (by rw [List.getElem?_map, hi]; rfl) (by rw [List.getElem?_map, hy]; rfl) q hq))
    refine ⟨x, ?_⟩
    have : (cs.drop 0).take F.c = cs := by rw [List.drop_zero, List.take_of_length_le (by omega)]
    rw [this] at hx; exact hx

/-- What the row hands a law, argument by argument. -/
theorem LawIn.arg {H : Type} {enc : TypeId × Value → H} {P : Program} {ts : List TypeId} {W : World} {args : List Value} {ds : List (DataW H)} {p : List MemPlace} (h : LawIn enc P ts W args ds p) {j : Nat} {t : TypeId} (ht : ts[j]? = some t) {α : Type} (A : Vw P t α) :
    ∃ v x base, args[j]? = some v ∧ A.rel W v.cells.toList x ∧ Value.okWide P W .any base t v := by
  obtain ⟨hA, ⟨base, hval⟩, hsz, -⟩ := h
  have hw : ∀ (j : Nat) (t : TypeId) (d : DataW H), ts[j]? = some t → ds[j]? = some d → ∀ n ∈ d.weights P t, n ≤ reachBytes := fun j t d h1 h2 n hn => by
    have := List.all_eq_true.1 hsz _ (DataW.weights_mem_each h1 h2 n hn)
    simpa using this
  have key : ∀ (ts : List TypeId) (vs : List Value) (ds : List (DataW H)) (p : List MemPlace), DataW.TrodAll enc P W 0 (fun _ => true) true ts vs ds p → ∀ (j : Nat) (t : TypeId), ts[j]? = some t → ∃ (v : Value) (d : DataW H) (q : List MemPlace), vs[j]? = some v ∧ ds[j]? = some d ∧ DataW.Trod enc P W 0 (fun _ => true) true t v d q := by
    intro ts
    induction ts with
    | nil => intro vs ds p _ j t ht; simp at ht
    | cons t0 ts ih =>
      intro vs ds p hA j t ht
      obtain ⟨v0, vs0, d0, ds0, p0, q0, rfl, rfl, rfl, h0, r0⟩ := trodAll_cons hA
      cases j with
      | zero => simp at ht; subst ht; exact ⟨v0, d0, p0, rfl, rfl, h0⟩
      | succ j => obtain ⟨v, d, q, h1, h2, h3⟩ := ih vs0 ds0 q0 r0 j t (by simpa using ht); exact ⟨v, d, q, by simpa using h1, by simpa using h2, h3⟩
  obtain ⟨v, d, q, h1, h2, fuel, h3⟩ := key ts args ds p hA j t ht
  obtain ⟨x, hx⟩ := A.opens h3 (hw j t d ht h2)
  exact ⟨v, x, base, h1, hx, hval j t v ht h1⟩
theorem LawIn.len {H : Type} {enc : TypeId × Value → H} {P : Program} {ts : List TypeId} {W : World} {args : List Value} {ds : List (DataW H)} {p : List MemPlace} (h : LawIn enc P ts W args ds p) : args.length = ts.length := (trodAll_length h.trod).1
theorem arg_int {P : Program} {W : World} {base : Nat} {t : TypeId} {k : IntKind} {ht : P.underlying t = some (.int k)} {hc : P.cellsOf t = 1} {v : Value} {x : Int} (h : (vInt k ht hc).rel W v.cells.toList x) (hv : Value.okWide P W .any base t v) : v = .int k x ∧ (Lit.int k x).wf = true := by
  obtain ⟨n, rfl⟩ := okWide_int ht hv
  obtain ⟨h1, h2⟩ := h
  simp [Value.cells] at h1
  exact ⟨by rw [h1], h2⟩
theorem arg_bool {P : Program} {W : World} {base : Nat} {t : TypeId} {ht : P.underlying t = some .bool} {hc : P.cellsOf t = 1} {v : Value} {x : Bool} (h : (vBool ht hc).rel W v.cells.toList x) (hv : Value.okWide P W .any base t v) : v = .bool x := by
  obtain ⟨n, rfl⟩ := okWide_bool ht hv
  have h1 : (Value.bool n).cells.toList = [.bool x] := h
  simp [Value.cells] at h1
  rw [h1]
theorem arg_str {P : Program} {W : World} {base : Nat} {t : TypeId} {ht : P.underlying t = some .string} {hc : P.cellsOf t = 1} {v : Value} {x : Bs} (h : (vStr ht hc).rel W v.cells.toList x) (hv : Value.okWide P W .any base t v) : v = stv x ∧ x.length ≤ reachBytes := by
  obtain ⟨n, rfl⟩ := okWide_string ht hv
  obtain ⟨h1, h2⟩ := h
  simp [Value.cells] at h1
  exact ⟨by rw [stv, h1], h2⟩
theorem arg_slice {P : Program} {W : World} {base : Nat} {t e : TypeId} {α : Type} {ht : P.underlying t = some (.slice e)} {hc : P.cellsOf t = 1} {A : Vw P e α} {v : Value} {x : List α} (h : (vSlice ht hc A).rel W v.cells.toList x) (hv : Value.okWide P W .any base t v) : SliceAs A W v x := by
  obtain ⟨a, n, c, rfl⟩ := okWide_slice ht hv
  obtain ⟨u, h1, h2⟩ := h
  simp [Value.cells] at h1
  rw [h1]; exact h2
theorem arg_struct {P : Program} {W : World} {base : Nat} {t : TypeId} {fs : Array Field} {α : Type} {ht : P.underlying t = some (.struct fs)} {F : Fv P fs.toList 0 α} {hc : P.cellsOf t = F.c} {v : Value} {x : α} (h : (vStruct ht F hc).rel W v.cells.toList x) (hv : Value.okWide P W .any base t v) : ∃ cs, v = .agg cs ∧ F.rel W cs.toList x := by
  obtain ⟨cs, rfl, _⟩ := okWide_struct ht hv
  exact ⟨cs, rfl, h⟩

end Go.Al

namespace Go.Al
set_option linter.unusedVariables false
set_option linter.unusedSimpArgs false
set_option linter.unusedSectionVars false

/-- A row just laid is the call's own. -/
theorem own_alloc {w : World} {e : TypeId} {l : List Value} (hl : l.length ≤ maxLen) {base : Nat} (hb : base ≤ w.heap.size) : (w.alloc (.cells l.toArray e)).ownsRow base e 1 (.slice (some ⟨w.heap.size, 0, none⟩) l.length l.length) l.length l :=
  ⟨by simp, .inr ⟨w.heap.size, l.length, l.toArray, rfl, hb, alloc_new _ _, Nat.le_refl _, hl, by simp, by simp⟩⟩
theorem own_neB {w : World} {base : Nat} {e t : TypeId} {sz : Nat} {v : Value} {n : Nat} {xs : List Value} {x : Nat} {cs : Array Value} {fz : Nat × Nat} (ho : w.ownsRow base e sz v n xs) (hx : w.heap[x]? = some (.cells cs t fz)) (hne : e ≠ t) : v.ownBlock ≠ some x := by
  intro hk
  rcases ho.2 with ⟨rfl, _⟩ | ⟨g, c, cur, rfl, _, hg, _⟩
  · simp [Value.ownBlock] at hk
  simp [Value.ownBlock] at hk
  subst hk
  rw [hx] at hg
  cases hg
  exact hne rfl
/-- 'append(out, src...)': nothing but out's own block turns. -/
theorem append_srcO {P : Program} {t e : TypeId} {sz bytes : Nat} (E : ElemT P t e sz bytes) (hsz : 0 < sz) {w : World} {base : Nat} {v u : Value} {n m : Nat} {xs news : List Value} (h : w.ownsRow base e sz v n xs) (hu : CellsAt w u m sz news) (h1 : ∀ u ∈ news, u.oneCell' = true) (ty : TypeId)
    (h63 : n + m ≤ maxLen) (hbytes : (n + m) * bytes ≤ 140737488355328) (hbase : base ≤ w.heap.size) :
    ∃ v' w', (Builtin.append_ #[t, t] ty #[v, u]).run P w = .ok v' w' ∧ w'.ownsRow base e sz v' (n + m) (xs ++ news) ∧ Fm (fun b => v.ownBlock = some b) w w' := by
  obtain ⟨i, z, hi, hz, hs, hb, hzs⟩ := E.info
  obtain ⟨⟨a, c, rfl, hn1, hn2, h3, h4⟩, hl⟩ := hu
  cases a with
  | some ad =>
    obtain ⟨v', w', hr, ho, hg, hn⟩ := run_append_own (P := P) w base t ty e i z sz bytes E.sl hi hz hs hb hzs hsz v n xs h ad m c news hl (fun j x hj => by obtain ⟨ad', e, hc⟩ := h4 j x hj; cases e; exact hc) h1 h63 hbytes hbase
    exact ⟨v', w', hr, ho, Fm.grown (S := fun b => v.ownBlock = some b) hg (fun k hk _ => hk)⟩
  | none =>
    obtain ⟨rfl, rfl⟩ := h3 rfl
    rw [Nat.zero_mul] at hl
    obtain rfl := List.eq_nil_of_length_eq_zero hl
    exact ⟨v, w, run_append_owned_none (P := P) (w := w) base t ty e i sz E.sl hi v n xs h, by simpa using h, Fm.refl _ _⟩

end Go.Al

namespace Go.Al
set_option linter.unusedVariables false
set_option linter.unusedSimpArgs false
set_option linter.unusedSectionVars false
open Go.ChangeShapes Go.WideShapes Go.ChangeAt Go.RowKit

theorem cellsV_keep {S : Nat → Prop} {w w' : World} {ad : Addr} {n : Nat} {x : Value} (h : cellsV w ad n = some x) (hf : Fm S w w') (hs : ¬ S ad.block) : cellsV w' ad n = some x := by
  have key : ∀ (n i : Nat) (l : List Value), cellsAt w ad i n = some l → cellsAt w' ad i n = some l := by
    intro n
    induction n with
    | zero => intro i l hl; simpa [cellsAt] using hl
    | succ n ih =>
      intro i l hl
      simp only [cellsAt] at hl ⊢
      cases hc : w.cell? (ad.add i) with
      | none => rw [hc] at hl; cases hl
      | some v =>
        rw [hc] at hl
        rw [hf.cell' hc (by rw [add_block]; exact hs)]
        cases hr : cellsAt w ad (i + 1) n with
        | none => rw [hr] at hl; cases hl
        | some l' =>
          rw [hr] at hl
          rw [ih _ _ hr]; exact hl
  unfold cellsV at h ⊢
  cases hc : cellsAt w ad 0 n with
  | none => rw [hc] at h; cases h
  | some l => rw [hc] at h; rw [key _ _ _ hc]; exact h
end Go.Al

namespace Go.Proofs.YthbngnlmgplijaaGreatDoor
open Go.Al Go.Proofs
set_option linter.unusedVariables false
set_option linter.unusedSimpArgs false
set_option linter.unusedSectionVars false
set_option maxRecDepth 100000

abbrev pv (b : Nat) : Value := .pointer (some ⟨b, 0, none⟩)
theorem Fmf {a b c : World} (h : Fm (fun _ => False) a b) (k : Fm (fun _ => False) b c) : Fm (fun _ => False) a c := h.trans k (fun _ _ e => e) (fun _ _ e => e)
theorem Fm.own {S : Nat → Prop} {a b c : World} (h : Fm (fun _ => False) a b) (k : Fm S b c) (hS : ∀ x, S x → a.heap.size ≤ x) : Fm (fun _ => False) a c := h.trans k (fun _ _ e => e) (fun x hx e => by have := hS x e; omega)
abbrev In (n : Int) : Prop := -9223372036854775808 ≤ n ∧ n ≤ 9223372036854775807
theorem B38 : ByteT Tryz.prog 123 5 9 := byteT_of Tryz.underlying123 Tryz.underlying5 Tryz.underlying9 (by kernel_rfl)

theorem half_u32 {c : Nat} (hc : c < 2 ^ 32) : ∃ x y : Value, unV .neg (uv (c &&& 1)) = some x ∧ binV (TypeDesc.int IntKind.u32) .and (Value.int IntKind.u32 3988292384) x = some y ∧ binV (TypeDesc.int IntKind.u32) .xor (uv (c / 2)) y = some (uv (crcS c)) := by
  rw [Nat.and_one_is_mod]
  unfold crcS
  have h2 : c % 2 = 0 ∨ c % 2 = 1 := by omega
  rcases h2 with h2 | h2
  · rw [h2]
    exact ⟨uv 0, uv 0, rfl, rfl, by rw [xor_u32 _ (by omega) (by omega)]; rfl⟩
  · rw [h2, if_pos rfl]
    exact ⟨uv 4294967295, uv 3988292384, rfl, rfl, by rw [xor_u32 _ (by omega) (by omega)]⟩
theorem crcT_snoc : ∀ (k c : Nat), crcT (k + 1) c = crcS (crcT k c)
  | 0, c => rfl
  | k + 1, c => by rw [crcT, crcT_snoc k]; rfl
theorem turned_spec (w : World) {c : Nat} (hc : c < 2 ^ 32) : Cl Tryz.prog 147 [uv c] w fun r w' => r = uv (crcT 8 c) ∧ w' = w := by
  refine c147 ?_; unfold T147
  refine ⟨fun vs w2 => ∃ i : Nat, vs = [uv (crcT i c), iv i] ∧ i ≤ 8 ∧ w2 = w, fun vs _ => (8 - nth vs 1).toNat, ⟨0, rfl, by omega, rfl⟩, ?_⟩
  rintro _ w2 cv ivv ⟨i, hvs, hi, rfl⟩
  cases hvs
  have hl := crcT_lt i hc
  by_cases hlt : i < 8
  · have e1 : decide ((i : Int) < 8) = true := by rw [decide_eq_true_eq]; omega
    have e2 : IntKind.i64.wrap ((i : Int) + 1) = ((i + 1 : Nat) : Int) := by rw [wrap_id] <;> omega
    obtain ⟨x, y, h1, h2, h3⟩ := half_u32 hl
    have s1 : binV (TypeDesc.int IntKind.u32) .shr (uv (crcT i c)) (Value.int IntKind.u64 1) = some (uv (crcT i c / 2)) := shr_u32 _ (k := 1) (by omega) .u64 rfl
    have a1 : binV (TypeDesc.int IntKind.u32) .and (uv (crcT i c)) (Value.int IntKind.u32 1) = some (uv (crcT i c &&& 1)) := and_u32 _ hl (b := 1) (by omega)
    simp only [RS0, RS1, RS2, RS3, RS4, RS5, e1, s1, a1, h1, h2, h3, e2]
    exact ⟨⟨i + 1, by rw [crcT_snoc], by omega, (by trivial)⟩, by simp only [nth_1]; omega⟩
  · obtain rfl : i = 8 := by omega
    have e1 : decide (((8 : Nat) : Int) < 8) = false := by simp
    simp only [RS0, RS1, RS2, RS3, RS4, RS5, e1]
    exact ⟨(by trivial), (by trivial)⟩
theorem crcF_take {l : Bs} {i : Nat} {b : UInt8} (c : Nat) (h : l[i]? = some b) : crcF c (l.take (i + 1)) = crcB (crcF c (l.take i)) b := by
  unfold crcF
  rw [List.take_add_one, h, List.foldl_append]; rfl
theorem sum_spec (w : World) (l : Bs) (hl : l.length ≤ 9223372036854775806) : Cl Tryz.prog 80 [stv l] w fun r w' => r = uv (crc l) ∧ w' = w := by
  refine c80 ?_; unfold T80
  simp only [RS0, RS1, RS2, RS3, RS4, RS5, str_size]
  refine ⟨fun vs w2 => ∃ i : Nat, vs = [uv (crcF 4294967295 (l.take i)), iv i] ∧ i ≤ l.length ∧ w2 = w, fun vs _ => (l.length - nth vs 1).toNat, ⟨0, rfl, by omega, rfl⟩, ?_⟩
  rintro _ w2 cv ivv ⟨i, hvs, hi, rfl⟩
  cases hvs
  have hc := crcF_lt (l.take i) (c := 4294967295) (by omega)
  by_cases hlt : i < l.length
  · have e1 : decide ((i : Int) < (l.length : Int)) = true := by rw [decide_eq_true_eq]; omega
    have e2 : IntKind.i64.wrap ((i : Int) + 1) = ((i + 1 : Nat) : Int) := by rw [wrap_id] <;> omega
    have hx : l[i]? = some l[i] := List.getElem?_eq_getElem hlt
    generalize l[i] = b at hx
    have hst := crcF_take 4294967295 hx
    generalize crcF 4294967295 (l.take i) = c at hc hst
    rw [crcB_table] at hst
    have hb := b.toNat_lt
    have s1 : binV (TypeDesc.int IntKind.u32) .shr (uv c) (Value.int IntKind.u64 8) = some (uv (c / 256)) := shr_u32 _ (k := 8) (by omega) .u64 rfl
    have a1 : binV (TypeDesc.int IntKind.u32) .and (uv c) (Value.int IntKind.u32 255) = some (uv (c % 256)) := by
      have := and_u32 (TypeDesc.int IntKind.u32) hc (b := 255) (by omega)
      rw [show c &&& 255 = c % 256 from Nat.and_two_pow_sub_one_eq_mod c 8] at this; exact this
    have q1 : IntKind.u32.wrap (b.toNat : Int) = (b.toNat : Int) := wrap_u32 (by omega)
    have x1 := xor_u32 (TypeDesc.int IntKind.u32) (a := c % 256) (b := b.toNat) (by omega) (by omega)
    have hx2 : c % 256 ^^^ b.toNat < 2 ^ 32 := Nat.xor_lt_two_pow (by omega) (by omega)
    simp only [RS0, RS1, RS2, RS3, RS4, RS5, e1, s1, a1, ixS_str hx, cvI_int, q1, x1]
    refine (turned_spec w2 hx2).mono ?_
    rintro _ _ ⟨rfl, rfl⟩
    have x2 := xor_u32 (TypeDesc.int IntKind.u32) (a := c / 256) (b := crcT 8 (c % 256 ^^^ b.toNat)) (by omega) (crcT_lt 8 hx2)
    simp only [RS0, RS1, RS2, RS3, RS4, RS5, x2, e2]
    exact ⟨⟨i + 1, by rw [hst], by omega, (by trivial)⟩, by simp only [nth_1]; omega⟩
  · have hie : i = l.length := by omega
    subst hie
    have e1 : decide (((l.length : Nat) : Int) < (l.length : Int)) = false := by simp
    rw [List.take_length] at hc ⊢
    simp only [RS0, RS1, RS2, RS3, RS4, RS5, e1, not_u32 hc]
    exact ⟨(by trivial), (by trivial)⟩
/-- The document's sum. -/
theorem rsum_spec (w : World) (l : Bs) (hl : l.length ≤ 9223372036854775806) : Cl Tryz.prog 84 [stv l] w fun r w' => r = uv (crc l) ∧ w' = w := by
  refine c84 ?_; unfold T84
  refine ⟨fun vs w2 => ∃ i : Nat, vs = [uv (crcF 4294967295 (l.take i)), iv i] ∧ i ≤ l.length ∧ w2 = w, fun vs _ => (l.length - nth vs 1).toNat, ⟨0, rfl, by omega, rfl⟩, ?_⟩
  rintro _ w2 cv ivv ⟨i, hvs, hi, rfl⟩
  cases hvs
  have hc := crcF_lt (l.take i) (c := 4294967295) (by omega)
  by_cases hlt : i < l.length
  · have e1 : decide ((i : Int) < (l.length : Int)) = true := by rw [decide_eq_true_eq]; omega
    have e2 : IntKind.i64.wrap ((i : Int) + 1) = ((i + 1 : Nat) : Int) := by rw [wrap_id] <;> omega
    have hx : l[i]? = some l[i] := List.getElem?_eq_getElem hlt
    generalize l[i] = b at hx
    have hst := crcF_take 4294967295 hx
    generalize crcF 4294967295 (l.take i) = c at hc hst
    have hb := b.toNat_lt
    have q1 : IntKind.u32.wrap (b.toNat : Int) = (b.toNat : Int) := wrap_u32 (by omega)
    have x1 := xor_u32 (TypeDesc.int IntKind.u32) (a := c) (b := b.toNat) (by omega) (by omega)
    have hx2 := xor_byte hc b
    simp only [RS0, RS1, RS2, RS3, RS4, RS5, str_size, e1, ixS_str hx, cvI_int, q1, x1]
    refine ⟨fun vs w3 => ∃ j : Nat, vs = [uv (crcT j (c ^^^ b.toNat)), iv j] ∧ j ≤ 8 ∧ w3 = w2, fun vs _ => (8 - nth vs 1).toNat, ⟨0, rfl, by omega, rfl⟩, ?_⟩
    rintro _ w3 cv jv ⟨j, hvs, hj, rfl⟩
    cases hvs
    have hl2 := crcT_lt j hx2
    by_cases hj8 : j < 8
    · have f1 : decide ((j : Int) < 8) = true := by rw [decide_eq_true_eq]; omega
      have f2 : IntKind.i64.wrap ((j : Int) + 1) = ((j + 1 : Nat) : Int) := by rw [wrap_id] <;> omega
      have hsn := crcT_snoc j (c ^^^ b.toNat)
      generalize crcT j (c ^^^ b.toNat) = d at hl2 hsn
      simp only [RS0, RS1, RS2, RS3, RS4, RS5, f1]
      refine Jn_at (fun vs w4 => vs = [uv (crcS d)] ∧ w4 = w3) ?_ ?_
      · rintro _ w4 ⟨rfl, rfl⟩ _
        refine ⟨_, rfl, ?_⟩
        simp only [RS0, RS1, RS2, RS3, RS4, RS5, f2]
        exact ⟨⟨j + 1, by rw [hsn], by omega, (by trivial)⟩, by simp only [nth_1]; omega⟩
      · intro kk hkk
        unfold crcS at hkk
        have hd2 : d % 2 = 0 ∨ d % 2 = 1 := by omega
        simp only [RS0, RS1, RS2, RS3, RS4, RS5, rem_u32, quo_u32 _ hl2, beq_dec]
        rcases hd2 with h2 | h2
        · rw [if_neg (by omega), Nat.xor_zero] at hkk
          rw [show decide (((d % 2 : Nat) : Int) = 1) = false by rw [h2]; rfl]
          simp only [RS0, RS1, RS2, RS3, RS4, RS5]
          exact hkk _ _ ⟨rfl, rfl⟩
        · rw [if_pos h2] at hkk
          rw [show decide (((d % 2 : Nat) : Int) = 1) = true by rw [h2]; rfl]
          have x2 : binV (TypeDesc.int IntKind.u32) .xor (uv (d / 2)) (Value.int IntKind.u32 3988292384) = some (uv (d / 2 ^^^ 3988292384)) := xor_u32 _ (b := 3988292384) (by omega) (by omega)
          simp only [RS0, RS1, RS2, RS3, RS4, RS5, x2]
          exact hkk _ _ ⟨rfl, rfl⟩
    · obtain rfl : j = 8 := by omega
      have f1 : decide (((8 : Nat) : Int) < 8) = false := by simp
      simp only [RS0, RS1, RS2, RS3, RS4, RS5, f1, e2]
      exact ⟨⟨i + 1, by rw [hst]; rfl, by omega, (by trivial)⟩, by simp only [nth_1]; omega⟩
  · have hie : i = l.length := by omega
    subst hie
    have e1 : decide (((l.length : Nat) : Int) < (l.length : Int)) = false := by simp
    rw [List.take_length] at hc ⊢
    have x2 : binV (TypeDesc.int IntKind.u32) .xor (uv (crcF 4294967295 l)) (Value.int IntKind.u32 4294967295) = some (uv (crcF 4294967295 l ^^^ 4294967295)) := xor_u32 _ hc (b := 4294967295) (by omega)
    simp only [RS0, RS1, RS2, RS3, RS4, RS5, str_size, e1, x2]
    exact ⟨(by trivial), (by trivial)⟩

/-! ### Numbers as bytes -/
theorem take_set_one (l : Bs) {i : Nat} {b : UInt8} (h : l[i]? = some b) (n : Nat) (hn : i < n) : (l.take i ++ List.replicate (n - i) (0 : UInt8)).set i b = l.take (i + 1) ++ List.replicate (n - (i + 1)) (0 : UInt8) := by
  have hl := (List.getElem?_eq_some_iff.1 h).1
  rw [List.set_append_right _ _ (by rw [List.length_take]; omega), List.length_take, Nat.min_eq_left (by omega), Nat.sub_self]
  rw [show n - i = (n - (i + 1)) + 1 by omega, List.replicate_succ, List.set_cons_zero, List.take_add_one, h]
  simp
theorem big_spec (w : World) {n : Int} (hn : In n) (k : Int) : Cl Tryz.prog 115 [iv n, iv k] w fun r w' => r = stv (bigB n k) ∧ Fm (fun _ => False) w w' := by
  refine c115 ?_; unfold T115
  unfold bigB
  cases h1 : decide (k < 1) with
  | true =>
    simp only [RS0, RS1, RS2, RS3, RS4, RS5, h1, Bool.true_or, cond_true]
    exact ⟨(by trivial), Fm.refl _ _⟩
  | false =>
  cases h2 : decide (8 < k) with
  | true =>
    simp only [RS0, RS1, RS2, RS3, RS4, RS5, h1, h2, Bool.true_or, Bool.or_true, cond_true]
    exact ⟨(by trivial), Fm.refl _ _⟩
  | false =>
  cases h3 : decide (n < 0) with
  | true =>
    simp only [RS0, RS1, RS2, RS3, RS4, RS5, h1, h2, h3, Bool.true_or, Bool.or_true, cond_true]
    exact ⟨(by trivial), Fm.refl _ _⟩
  | false =>
  rw [decide_eq_false_iff_not] at h1 h2 h3
  obtain ⟨x, rfl⟩ := Int.eq_ofNat_of_zero_le (show 0 ≤ n by omega)
  obtain ⟨m, rfl⟩ := Int.eq_ofNat_of_zero_le (show 0 ≤ k by omega)
  have g1 : decide ((Int.ofNat m) < 1) = false := by rw [decide_eq_false_iff_not]; exact h1
  have g2 : decide (8 < (Int.ofNat m)) = false := by rw [decide_eq_false_iff_not]; exact h2
  have g3 : decide ((Int.ofNat x) < 0) = false := by rw [decide_eq_false_iff_not]; exact h3
  have hm : 1 ≤ m ∧ m ≤ 8 := by omega
  have hx : x ≤ 9223372036854775807 := by have := hn.2; omega
  have g1' : decide ((m : Int) < 1) = false := g1
  have g2' : decide (8 < (m : Int)) = false := g2
  have g3' : decide ((x : Int) < 0) = false := g3
  simp only [RS0, RS1, RS2, RS3, RS4, RS5, g1', g2', g3', Bool.or_false, cond_false, Int.toNat_natCast]
  refine RunS_ok (BRow.make B38 w m (by omega)) ?_
  have hb1 := alloc_new w (.cells (bc (List.replicate m 0)).toArray 5)
  have hf1 := Fm.alloc (fun _ => False) w (.cells (bc (List.replicate m 0)).toArray 5)
  have hg := Nat.le_refl w.heap.size
  generalize hge : w.heap.size = g at hb1
  generalize w.alloc (.cells (bc (List.replicate m 0)).toArray 5) = w1 at hb1 hf1
  replace hb1 : BRow w1 g 5 (List.replicate m 0) := hb1
  simp only [RS0, RS1, RS2, RS3, RS4, RS5]
  refine ⟨fun vs w2 => ∃ i : Nat, vs = [iv i] ∧ i ≤ m ∧ BRow w2 g 5 ((beN m x).take i ++ List.replicate (m - i) 0) ∧ Fm (fun _ => False) w w2, fun vs _ => (m - nth vs 0).toNat, ⟨0, rfl, by omega, by simpa using hb1, hf1⟩, ?_⟩
  rintro _ w2 ivv ⟨i, hvs, hi, hb2, hf2⟩
  cases hvs
  by_cases hlt : i < m
  · have e1 : decide ((i : Int) < (m : Int)) = true := by rw [decide_eq_true_eq]; omega
    have e2 : IntKind.i64.wrap ((i : Int) + 1) = ((i + 1 : Nat) : Int) := by rw [wrap_id] <;> omega
    have e3 : IntKind.i64.wrap ((m : Int) - 1) = ((m - 1 : Nat) : Int) := by rw [wrap_id] <;> omega
    have e4 : IntKind.i64.wrap (((m - 1 : Nat) : Int) - i) = ((m - 1 - i : Nat) : Int) := by rw [wrap_id] <;> omega
    have e5 : IntKind.i64.wrap (8 * ((m - 1 - i : Nat) : Int)) = ((8 * (m - 1 - i) : Nat) : Int) := by rw [wrap_id] <;> omega
    have e6 := shr_nat x (8 * (m - 1 - i)) (by omega) (TypeDesc.int IntKind.i64) .i64
    have hget := beN_get m x i hlt
    have hpw : x / 2 ^ (8 * (m - 1 - i)) = x / 256 ^ (m - 1 - i) := by rw [Nat.pow_mul]
    have hval : IntKind.u8.wrap ((x / 2 ^ (8 * (m - 1 - i)) : Nat) : Int) = (((UInt8.ofNat (x / 256 ^ (m - 1 - i) % 256)).toNat : Nat) : Int) := by
      rw [wrap_u8_mod, ofN_toNat (by omega), hpw]
    generalize UInt8.ofNat (x / 256 ^ (m - 1 - i) % 256) = b at hget hval
    have hix : ixV 1 (.slice (some ⟨g, 0, none⟩) m m) (iv i) = some (.pointer (some ⟨g, i, none⟩)) := by rw [ixV_at hlt, add_none]; simp
    simp only [RS0, RS1, RS2, RS3, RS4, RS5, e1, e3, e4, e5, e6, cvI_int, hval, hix]
    refine BRow.put hb2 (b := b) (by simp [beN_len]; omega) ?_
    intro w3 hb3 hs3 hf3
    rw [take_set_one _ hget m hlt] at hb3
    simp only [RS0, RS1, RS2, RS3, RS4, RS5, e2]
    exact ⟨⟨i + 1, rfl, by omega, hb3, Fm.own hf2 hf3 (by rintro y rfl; omega)⟩, by simp only [nth_0]; omega⟩
  · obtain rfl : i = m := by omega
    have e1 : decide ((i : Int) < (i : Int)) = false := by simp
    have hfull : (beN i x).take i ++ List.replicate (i - i) (0 : UInt8) = beN i x := by rw [Nat.sub_self, List.take_of_length_le (by rw [beN_len]; exact Nat.le_refl _)]; simp
    rw [hfull] at hb2
    simp only [RS0, RS1, RS2, RS3, RS4, RS5, e1]
    refine RunS_ok (BRow.conv B38 hb2 (o := 0) (n := i) (by rw [beN_len]; omega) i) ?_
    refine ⟨?_, hf2⟩
    rw [List.drop_zero, List.take_of_length_le (by rw [beN_len]; exact Nat.le_refl _)]
/-- The document's. -/
theorem rbig_spec (w : World) {n : Int} (hn : In n) (k : Int) : Cl Tryz.prog 192 [iv n, iv k] w fun r w' => r = stv (bigB n k) ∧ Fm (fun _ => False) w w' := by
  refine c192 ?_; unfold T192
  unfold bigB
  cases h1 : decide (k < 1) with
  | true =>
    simp only [RS0, RS1, RS2, RS3, RS4, RS5, h1, Bool.true_or, cond_true]
    exact ⟨(by trivial), Fm.refl _ _⟩
  | false =>
  cases h2 : decide (8 < k) with
  | true =>
    simp only [RS0, RS1, RS2, RS3, RS4, RS5, h1, h2, Bool.true_or, Bool.or_true, cond_true]
    exact ⟨(by trivial), Fm.refl _ _⟩
  | false =>
  cases h3 : decide (n < 0) with
  | true =>
    simp only [RS0, RS1, RS2, RS3, RS4, RS5, h1, h2, h3, Bool.true_or, Bool.or_true, cond_true]
    exact ⟨(by trivial), Fm.refl _ _⟩
  | false =>
  rw [decide_eq_false_iff_not] at h1 h2 h3
  obtain ⟨x, rfl⟩ := Int.eq_ofNat_of_zero_le (show 0 ≤ n by omega)
  obtain ⟨m, rfl⟩ := Int.eq_ofNat_of_zero_le (show 0 ≤ k by omega)
  have g1' : decide ((m : Int) < 1) = false := by rw [decide_eq_false_iff_not]; exact h1
  have g2' : decide (8 < (m : Int)) = false := by rw [decide_eq_false_iff_not]; exact h2
  have g3' : decide ((x : Int) < 0) = false := by rw [decide_eq_false_iff_not]; exact h3
  have hm : 1 ≤ m ∧ m ≤ 8 := by omega
  have hx : x ≤ 9223372036854775807 := by have := hn.2; omega
  have e0 : IntKind.i64.wrap ((m : Int) - 1) = (m : Int) - 1 := by rw [wrap_id]; omega
  simp only [RS0, RS1, RS2, RS3, RS4, RS5, g1', g2', g3', Bool.or_false, cond_false, Int.toNat_natCast]
  refine RunS_ok (BRow.make B38 w m (by omega)) ?_
  have hb1 := alloc_new w (.cells (bc (List.replicate m 0)).toArray 5)
  have hf1 := Fm.alloc (fun _ => False) w (.cells (bc (List.replicate m 0)).toArray 5)
  have hg := Nat.le_refl w.heap.size
  generalize hge : w.heap.size = g at hb1
  generalize w.alloc (.cells (bc (List.replicate m 0)).toArray 5) = w1 at hb1 hf1
  replace hb1 : BRow w1 g 5 (List.replicate m 0) := hb1
  simp only [RS0, RS1, RS2, RS3, RS4, RS5, e0]
  refine ⟨fun vs w2 => ∃ i : Nat, vs = [iv (x / 256 ^ (m - i) : Nat), iv ((i : Int) - 1)] ∧ i ≤ m ∧ BRow w2 g 5 (List.replicate i 0 ++ beN (m - i) x) ∧ Fm (fun _ => False) w w2, fun vs _ => (nth vs 1 + 1).toNat, ⟨m, by rw [Nat.sub_self]; simp, by omega, by rw [Nat.sub_self]; simpa [beN] using hb1, hf1⟩, ?_⟩
  rintro _ w2 nv ivv ⟨i, hvs, hi, hb2, hf2⟩
  cases hvs
  by_cases hlt : 0 < i
  · have e1 : decide ((0 : Int) ≤ (i : Int) - 1) = true := by rw [decide_eq_true_eq]; omega
    have e2 : IntKind.i64.wrap ((i : Int) - 1 - 1) = ((i - 1 : Nat) : Int) - 1 := by rw [wrap_id] <;> omega
    have hpos : x / 256 ^ (m - i) ≤ x := Nat.div_le_self _ _
    have e3 := rem_nat (TypeDesc.int IntKind.i64) (n := x / 256 ^ (m - i)) (m := 256) (by omega) (by omega) (b := 256) rfl
    have e4 := quo_nat (TypeDesc.int IntKind.i64) (n := x / 256 ^ (m - i)) (m := 256) (by omega) (by omega) (b := 256) rfl
    have hd : x / 256 ^ (m - i) / 256 = x / 256 ^ (m - (i - 1)) := by
      rw [Nat.div_div_eq_div_mul, ← Nat.pow_succ]
      congr 2; omega
    have hcast : ((i : Int) - 1) = ((i - 1 : Nat) : Int) := by omega
    have hix : ixV 1 (.slice (some ⟨g, 0, none⟩) m m) (iv ((i : Int) - 1)) = some (.pointer (some ⟨g, i - 1, none⟩)) := by
      rw [hcast]
      have := ixV_at (sz := 1) (a := ⟨g, 0, none⟩) (len := m) (cap := m) (k := .i64) (i := i - 1) (by omega)
      rw [this, add_none]; simp
    have hval : IntKind.u8.wrap ((x / 256 ^ (m - i) % 256 : Nat) : Int) = (((UInt8.ofNat (x / 256 ^ (m - i) % 256)).toNat : Nat) : Int) := by
      rw [wrap_u8_mod, ofN_toNat (by omega), Nat.mod_mod]
    have hbe : beN (m - (i - 1)) x = UInt8.ofNat (x / 256 ^ (m - i) % 256) :: beN (m - i) x := by
      have key : ∀ (k n : Nat), beN (k + 1) n = UInt8.ofNat (n / 256 ^ k % 256) :: beN k n := by
        intro k
        induction k with
        | zero => intro n; simp [beN]
        | succ k ih =>
          intro n
          rw [beN, ih, List.cons_append, beN]
          congr 3
          rw [Nat.div_div_eq_div_mul, ← Nat.pow_succ']
      rw [show m - (i - 1) = (m - i) + 1 by omega]; exact key _ _
    simp only [RS0, RS1, RS2, RS3, RS4, RS5, e1, e3, cvI_int, hval, hix]
    refine BRow.put hb2 (by simp [beN_len]; omega) ?_
    intro w3 hb3 hs3 hf3
    have hset : (List.replicate i (0 : UInt8) ++ beN (m - i) x).set (i - 1) (UInt8.ofNat (x / 256 ^ (m - i) % 256)) = List.replicate (i - 1) 0 ++ beN (m - (i - 1)) x := by
      rw [hbe]
      have : List.replicate i (0 : UInt8) = List.replicate (i - 1) 0 ++ [0] := by
        rw [show i = (i - 1) + 1 by omega, List.replicate_succ']; simp
      rw [this, List.append_assoc, List.set_append_right _ _ (by simp)]
      simp
    rw [hset] at hb3
    simp only [RS0, RS1, RS2, RS3, RS4, RS5, e4, hd, e2]
    exact ⟨⟨i - 1, rfl, by omega, hb3, Fm.own hf2 hf3 (by rintro y rfl; omega)⟩, by simp only [nth_1]; omega⟩
  · obtain rfl : i = 0 := by omega
    have e1 : decide ((0 : Int) ≤ ((0 : Nat) : Int) - 1) = false := by decide
    rw [Nat.sub_zero] at hb2
    replace hb2 : BRow w2 g 5 (beN m x) := by simpa using hb2
    simp only [RS0, RS1, RS2, RS3, RS4, RS5, e1]
    refine RunS_ok (BRow.conv B38 hb2 (o := 0) (n := m) (by rw [beN_len]; omega) m) ?_
    refine ⟨?_, hf2⟩
    rw [List.drop_zero, List.take_of_length_le (by rw [beN_len]; exact Nat.le_refl _)]

theorem foldl_take' {α β : Type} (f : β → α → β) (b : β) {l : List α} {i : Nat} {x : α} (hi : l[i]? = some x) : (l.take (i + 1)).foldl f b = f ((l.take i).foldl f b) x := by
  rw [List.take_add_one, hi, List.foldl_append]; rfl
theorem of_spec (w : World) (l : Bs) (hl : l.length ≤ 9223372036854775806) : Cl Tryz.prog 79 [stv l] w fun r w' => r = iv (ofN l : Nat) ∧ w' = w := by
  refine c79 ?_; unfold T79
  simp only [RS0, RS1, RS2, RS3, RS4, RS5, str_size]
  refine ⟨fun vs w2 => ∃ i : Nat, vs = [qv (of64 (l.take i)), iv i] ∧ i ≤ l.length ∧ w2 = w, fun vs _ => (l.length - nth vs 1).toNat, ⟨0, rfl, by omega, rfl⟩, ?_⟩
  rintro _ w2 cv ivv ⟨i, hvs, hi, rfl⟩
  cases hvs
  have hc : of64 (l.take i) < 2 ^ 64 := by rw [of64_eq]; omega
  by_cases hlt : i < l.length
  · have e1 : decide ((i : Int) < (l.length : Int)) = true := by rw [decide_eq_true_eq]; omega
    have e2 : IntKind.i64.wrap ((i : Int) + 1) = ((i + 1 : Nat) : Int) := by rw [wrap_id] <;> omega
    have hx : l[i]? = some l[i] := List.getElem?_eq_getElem hlt
    generalize l[i] = b at hx
    have hst : of64 (l.take (i + 1)) = (of64 (l.take i) * 256 + b.toNat) % 2 ^ 64 := foldl_take' _ _ hx
    generalize of64 (l.take i) = c at hc hst
    have hb := b.toNat_lt
    have q1 : IntKind.u64.wrap (b.toNat : Int) = (b.toNat : Int) := wrap_u64 (by omega)
    have o1 := or_u64 (TypeDesc.int IntKind.u64) (a := c * 256 % 2 ^ 64) (b := b.toNat) (by omega) (by omega) (by omega)
    simp only [RS0, RS1, RS2, RS3, RS4, RS5, e1, shl_u64, ixS_str hx, cvI_int, q1, o1, e2]
    refine ⟨⟨i + 1, ?_, by omega, (by trivial)⟩, by simp only [nth_1]; omega⟩
    rw [hst]
    congr 3
    omega
  · have hie : i = l.length := by omega
    subst hie
    have e1 : decide (((l.length : Nat) : Int) < (l.length : Int)) = false := by simp
    rw [List.take_length] at hc ⊢
    have q1 : IntKind.i64.wrap ((of64 l % 2 ^ 63 : Nat) : Int) = ((of64 l % 2 ^ 63 : Nat) : Int) := wrap_nat (by omega)
    simp only [RS0, RS1, RS2, RS3, RS4, RS5, e1, top_u64 _ hc, cvI_int, q1]
    refine ⟨?_, (by trivial)⟩
    rw [ofN, of64_eq]
    congr 2
    omega
theorem rof_spec (w : World) (l : Bs) (hl : l.length ≤ 9223372036854775806) : Cl Tryz.prog 83 [stv l] w fun r w' => r = iv (ofN l : Nat) ∧ w' = w := by
  refine c83 ?_; unfold T83
  refine ⟨fun vs w2 => ∃ i : Nat, vs = [iv (ofN (l.take i) : Nat), iv i] ∧ i ≤ l.length ∧ w2 = w, fun vs _ => (l.length - nth vs 1).toNat, ⟨0, rfl, by omega, rfl⟩, ?_⟩
  rintro _ w2 cv ivv ⟨i, hvs, hi, rfl⟩
  cases hvs
  have hc : ofN (l.take i) < 2 ^ 63 := by unfold ofN; omega
  by_cases hlt : i < l.length
  · have e1 : decide ((i : Int) < (l.length : Int)) = true := by rw [decide_eq_true_eq]; omega
    have e2 : IntKind.i64.wrap ((i : Int) + 1) = ((i + 1 : Nat) : Int) := by rw [wrap_id] <;> omega
    have hx : l[i]? = some l[i] := List.getElem?_eq_getElem hlt
    generalize l[i] = b at hx
    have hst : ofB (l.take (i + 1)) = ofB (l.take i) * 256 + b.toNat := foldl_take' _ _ hx
    have hb := b.toNat_lt
    have hn : ofN (l.take (i + 1)) = ofN (l.take i) % 36028797018963968 * 256 + b.toNat := by
      unfold ofN
      rw [hst]; omega
    generalize ofN (l.take i) = c at hc hn
    have r1 := rem_nat (TypeDesc.int IntKind.i64) (n := c) (m := 36028797018963968) (by omega) (by omega) (b := 36028797018963968) rfl
    have m1 : IntKind.i64.wrap (((c % 36028797018963968 : Nat) : Int) * 256) = ((c % 36028797018963968 * 256 : Nat) : Int) := by rw [wrap_id] <;> omega
    have q1 : IntKind.i64.wrap (b.toNat : Int) = (b.toNat : Int) := wrap_nat (by omega)
    have a1 : IntKind.i64.wrap (((c % 36028797018963968 * 256 : Nat) : Int) + (b.toNat : Int)) = ((c % 36028797018963968 * 256 + b.toNat : Nat) : Int) := by rw [wrap_id] <;> omega
    simp only [RS0, RS1, RS2, RS3, RS4, RS5, str_size, e1, r1, m1, ixS_str hx, cvI_int, q1, a1, e2]
    exact ⟨⟨i + 1, by rw [hn], by omega, (by trivial)⟩, by simp only [nth_1]; omega⟩
  · have hie : i = l.length := by omega
    subst hie
    have e1 : decide (((l.length : Nat) : Int) < (l.length : Int)) = false := by simp
    rw [List.take_length]
    simp only [RS0, RS1, RS2, RS3, RS4, RS5, str_size, e1]
    exact ⟨(by trivial), (by trivial)⟩

end Go.Proofs.YthbngnlmgplijaaGreatDoor

namespace Go.Proofs
open Go.RowKit Go.Shelf
set_option linter.unusedVariables false
set_option linter.unusedSimpArgs false
set_option linter.unusedSectionVars false
def Tryz.lays105_ren : Go.Shelf.Ren := ⟨fun | 105 => 95 | 212 => 173 | 99 => 174 | 165 => 175 | 166 => 176 | 170 => 177 | 169 => 178 | 263 => 208 | 264 => 209 | 206 => 210 | 240 => 211 | 241 => 212 | 276 => 223 | 277 => 224 | n => n, fun | 9 => 9 | 3 => 3 | 4 => 4 | 20 => 20 | 0 => 0 | 46 => 179 | 109 => 197 | 5 => 5 | 72 => 202 | 76 => 206 | 51 => 110 | 146 => 230 | 53 => 178 | 148 => 232 | 70 => 200 | 37 => 123 | 75 => 205 | 127 => 234 | 164 => 244 | 80 => 208 | n => n, fun | n => n⟩
theorem Tryz.lays105 : Go.Proofs.Lays.n105 Tryz.prog Tryz.lays105_ren := {
  mixed := by kernel_rfl
  f99 := Tryz.func174.trans (congrArg some (by kernel_rfl))
  f105 := Tryz.func95.trans (congrArg some (by kernel_rfl))
  f165 := Tryz.func175.trans (congrArg some (by kernel_rfl))
  f166 := Tryz.func176.trans (congrArg some (by kernel_rfl))
  f169 := Tryz.func178.trans (congrArg some (by kernel_rfl))
  f170 := Tryz.func177.trans (congrArg some (by kernel_rfl))
  f206 := Tryz.func210.trans (congrArg some (by kernel_rfl))
  f212 := Tryz.func173.trans (congrArg some (by kernel_rfl))
  f240 := Tryz.func211.trans (congrArg some (by kernel_rfl))
  f241 := Tryz.func212.trans (congrArg some (by kernel_rfl))
  f263 := Tryz.func208.trans (congrArg some (by kernel_rfl))
  f264 := Tryz.func209.trans (congrArg some (by kernel_rfl))
  f276 := Tryz.func223.trans (congrArg some (by kernel_rfl))
  f277 := Tryz.func224.trans (congrArg some (by kernel_rfl))
  t0 := Tryz.underlying0
  a0 := Tryz.isAgg0
  z0 := Tryz.sizeOf0
  v0 := Tryz.zeroValue0
  t3 := Tryz.underlying3
  a3 := Tryz.isAgg3
  z3 := Tryz.sizeOf3
  v3 := Tryz.zeroValue3
  t4 := Tryz.underlying4
  a4 := Tryz.isAgg4
  z4 := Tryz.sizeOf4
  v4 := Tryz.zeroValue4
  t5 := Tryz.underlying5
  a5 := Tryz.isAgg5
  z5 := Tryz.sizeOf5
  v5 := Tryz.zeroValue5
  t9 := Tryz.underlying9
  a9 := Tryz.isAgg9
  z9 := Tryz.sizeOf9
  v9 := Tryz.zeroValue9
  t20 := Tryz.underlying20
  a20 := Tryz.isAgg20
  z20 := Tryz.sizeOf20
  v20 := Tryz.zeroValue20
  t37 := Tryz.underlying123
  a37 := Tryz.isAgg123
  z37 := Tryz.sizeOf123
  v37 := Tryz.zeroValue123
  t46 := Tryz.underlying179
  a46 := Tryz.isAgg179
  z46 := Tryz.sizeOf179
  v46 := Tryz.zeroValue179
  t51 := Tryz.underlying110
  a51 := Tryz.isAgg110
  z51 := Tryz.sizeOf110
  v51 := Tryz.zeroValue110
  t53 := Tryz.underlying178
  a53 := Tryz.isAgg178
  z53 := Tryz.sizeOf178
  v53 := Tryz.zeroValue178
  t70 := Tryz.underlying200
  a70 := Tryz.isAgg200
  z70 := Tryz.sizeOf200
  v70 := Tryz.zeroValue200
  t72 := Tryz.underlying202
  a72 := Tryz.isAgg202
  z72 := Tryz.sizeOf202
  v72 := Tryz.zeroValue202
  t75 := Tryz.underlying205
  a75 := Tryz.isAgg205
  z75 := Tryz.sizeOf205
  v75 := Tryz.zeroValue205
  t76 := Tryz.underlying206
  a76 := Tryz.isAgg206
  z76 := Tryz.sizeOf206
  v76 := Tryz.zeroValue206
  t109 := Tryz.underlying197
  a109 := Tryz.isAgg197
  z109 := Tryz.sizeOf197
  v109 := Tryz.zeroValue197
  t127 := Tryz.underlying234
  a127 := Tryz.isAgg234
  z127 := Tryz.sizeOf234
  v127 := Tryz.zeroValue234
  t146 := Tryz.underlying230
  a146 := Tryz.isAgg230
  z146 := Tryz.sizeOf230
  v146 := Tryz.zeroValue230
  t148 := Tryz.underlying232
  a148 := Tryz.isAgg232
  z148 := Tryz.sizeOf232
  v148 := Tryz.zeroValue232
  t164 := Tryz.underlying244
  a164 := Tryz.isAgg244
  z164 := Tryz.sizeOf244
  v164 := Tryz.zeroValue244 }
def Tryz.lays160_ren : Go.Shelf.Ren := ⟨fun | 160 => 117 | 232 => 182 | 231 => 181 | 227 => 183 | 234 => 185 | 233 => 184 | 236 => 187 | 235 => 186 | 228 => 214 | 271 => 217 | 151 => 216 | 197 => 215 | 120 => 227 | 152 => 226 | 260 => 225 | 137 => 240 | 119 => 241 | 224 => 242 | 225 => 243 | 217 => 250 | 266 => 252 | n => n, fun | 9 => 9 | 4 => 4 | 3 => 3 | 5 => 5 | 117 => 213 | 116 => 212 | 0 => 0 | 124 => 216 | 21 => 21 | 105 => 236 | 46 => 179 | 119 => 256 | 139 => 259 | 138 => 258 | n => n, fun | 3 => 1 | 4 => 2 | n => n⟩
theorem Tryz.lays160 : Go.Proofs.Lays.n160 Tryz.prog Tryz.lays160_ren := {
  mixed := by kernel_rfl
  f119 := Tryz.func241.trans (congrArg some (by kernel_rfl))
  f120 := Tryz.func227.trans (congrArg some (by kernel_rfl))
  f137 := Tryz.func240.trans (congrArg some (by kernel_rfl))
  f151 := Tryz.func216.trans (congrArg some (by kernel_rfl))
  f152 := Tryz.func226.trans (congrArg some (by kernel_rfl))
  f160 := Tryz.func117.trans (congrArg some (by kernel_rfl))
  f197 := Tryz.func215.trans (congrArg some (by kernel_rfl))
  f217 := Tryz.func250.trans (congrArg some (by kernel_rfl))
  f224 := Tryz.func242.trans (congrArg some (by kernel_rfl))
  f225 := Tryz.func243.trans (congrArg some (by kernel_rfl))
  f227 := Tryz.func183.trans (congrArg some (by kernel_rfl))
  f228 := Tryz.func214.trans (congrArg some (by kernel_rfl))
  f231 := Tryz.func181.trans (congrArg some (by kernel_rfl))
  f232 := Tryz.func182.trans (congrArg some (by kernel_rfl))
  f233 := Tryz.func184.trans (congrArg some (by kernel_rfl))
  f234 := Tryz.func185.trans (congrArg some (by kernel_rfl))
  f235 := Tryz.func186.trans (congrArg some (by kernel_rfl))
  f236 := Tryz.func187.trans (congrArg some (by kernel_rfl))
  f260 := Tryz.func225.trans (congrArg some (by kernel_rfl))
  f266 := Tryz.func252.trans (congrArg some (by kernel_rfl))
  f271 := Tryz.func217.trans (congrArg some (by kernel_rfl))
  t0 := Tryz.underlying0
  a0 := Tryz.isAgg0
  z0 := Tryz.sizeOf0
  v0 := Tryz.zeroValue0
  t3 := Tryz.underlying3
  a3 := Tryz.isAgg3
  z3 := Tryz.sizeOf3
  v3 := Tryz.zeroValue3
  t4 := Tryz.underlying4
  a4 := Tryz.isAgg4
  z4 := Tryz.sizeOf4
  v4 := Tryz.zeroValue4
  t5 := Tryz.underlying5
  a5 := Tryz.isAgg5
  z5 := Tryz.sizeOf5
  v5 := Tryz.zeroValue5
  t9 := Tryz.underlying9
  a9 := Tryz.isAgg9
  z9 := Tryz.sizeOf9
  v9 := Tryz.zeroValue9
  t21 := Tryz.underlying21
  a21 := Tryz.isAgg21
  z21 := Tryz.sizeOf21
  v21 := Tryz.zeroValue21
  t46 := Tryz.underlying179
  a46 := Tryz.isAgg179
  z46 := Tryz.sizeOf179
  v46 := Tryz.zeroValue179
  t105 := Tryz.underlying236
  a105 := Tryz.isAgg236
  z105 := Tryz.sizeOf236
  v105 := Tryz.zeroValue236
  t116 := Tryz.underlying212
  a116 := Tryz.isAgg212
  z116 := Tryz.sizeOf212
  t117 := Tryz.underlying213
  a117 := Tryz.isAgg213
  z117 := Tryz.sizeOf213
  v117 := Tryz.zeroValue213
  t119 := Tryz.underlying256
  a119 := Tryz.isAgg256
  z119 := Tryz.sizeOf256
  t124 := Tryz.underlying216
  a124 := Tryz.isAgg216
  z124 := Tryz.sizeOf216
  v124 := Tryz.zeroValue216
  t138 := Tryz.underlying258
  a138 := Tryz.isAgg258
  z138 := Tryz.sizeOf258
  v138 := Tryz.zeroValue258
  t139 := Tryz.underlying259
  a139 := Tryz.isAgg259
  z139 := Tryz.sizeOf259
  v139 := Tryz.zeroValue259
  g3 := by kernel_rfl
  g4 := by kernel_rfl }

theorem Tryz.bldExtra : Builder.Extra Tryz.prog Tryz.lays105_ren where
  sizeBuilder := by kernel_rfl
  liesBuilder := by kernel_rfl
  t5 := Tryz.lays105.t5
  a5 := Tryz.lays105.a5
  z5 := Tryz.lays105.z5
  v5 := Tryz.lays105.v5
  infoByte := by kernel_rfl
  cellsByte := by kernel_rfl
  sizeByte := by kernel_rfl
  neB5 := by decide

namespace YthbngnlmgplijaaGreatDoor
open Go.Al Go.Proofs
set_option maxRecDepth 100000

theorem cl_of {g : FuncId} {args : List Value} {w : World} {R : Ending → World → Prop} {k : KV} (h : Calls Tryz.prog g args.toArray w R) (hk : ∀ e w', R e w' → ∃ v, e = .returned v ∧ k v w') : Cl Tryz.prog g args w k :=
  ⟨Calls.mono h fun e w' he => by obtain ⟨v, rfl, hv⟩ := hk e w' he; exact hv⟩
theorem Fm.of_belowB {B : Nat} {w w' : World} (h : Below B w w') : Fm (fun x => B ≤ x) w w' := ⟨h.os, h.tape, h.output, h.size, fun b hb hs => h.block b (by omega)⟩
/-! ### A builder -/
/-- A builder of the call's own, in block b, that holds l. -/
def Bld (w : World) (b : Nat) (l : Bs) : Prop := Lib.IsBuilderF 202 5 b b (bc l) w
theorem Bld.lt {w : World} {b : Nat} {l : Bs} (h : Bld w b l) : b < w.heap.size := by
  rcases h with h | h <;> exact h.lt
theorem Bld.new {w : World} {b : Nat} (h : w.heap[b]? = some (.cells #[.pointer none, .slice none 0 0] 202)) : Bld w b [] :=
  Lib.IsBuilderF.of (.inl ⟨Nat.le_refl _, _, h, World.ownsRow_nil _ _ _ _, by simp [Value.ownBlock]⟩)
theorem Bld.keep {w w' : World} {b : Nat} {l : Bs} (h : Bld w b l) (hf : Fm (fun _ => False) w w') : Bld w' b l := by
  have key : ∀ p, Lib.BuilderAtF 202 5 b b p (bc l) w → Lib.BuilderAtF 202 5 b b p (bc l) w' := by
    rintro p ⟨h1, v, h2, h3, h4⟩
    refine ⟨h1, v, hf.heap h2 (fun e => e), ?_, h4⟩
    obtain ⟨g1, g2⟩ := h3
    refine ⟨g1, ?_⟩
    rcases g2 with g2 | ⟨g, cap, cur, fz, r1, r2, r3, r4⟩
    · exact .inl g2
    · exact .inr ⟨g, cap, cur, fz, r1, r2, hf.heap r3 (fun e => e), r4⟩
  rcases h with h | h
  · exact .inl (key _ h)
  · exact .inr (key _ h)
theorem bwrite_spec {w : World} {b : Nat} {l : Bs} (h : Bld w b l) (s : Bs) (hlen : l.length + s.length ≤ 140737488355328) : Cl Tryz.prog 176 [pv b, stv s] w fun _ w' => Bld w' b (l ++ s) ∧ Fm (fun x => b ≤ x) w w' := by
  have c : Calls Tryz.prog 176 #[pv b, stv s] w fun e w' => e = .returned (.tuple #[.int .i64 (str s).size, .nilIface]) ∧ (Lib.BuilderAtF 202 5 b b (pv b) (bc l ++ Lib.strCells (str s)) w' ∧ Below b w w' ∧ Lib.OthersKept 5 (some b) w w') :=
    Any.Builder_WriteString_k (ρ := Tryz.lays105_ren) { Tryz.lays105 with } Tryz.bldExtra b b (bc l) (str s) w h (by rw [bc_len, str_size]; exact hlen) (Nat.le_of_lt h.lt)
  refine cl_of c fun e w' ⟨h1, h2, h3, _⟩ => ⟨_, h1, ?_, Fm.of_belowB h3⟩
  rw [show Lib.strCells (str s) = bc s from rfl, ← bc_append] at h2
  exact .inr h2
theorem blen_spec {w : World} {b : Nat} {l : Bs} (h : Bld w b l) : Cl Tryz.prog 177 [pv b] w fun v w' => v = iv l.length ∧ w' = w := by
  have c : Calls Tryz.prog 177 #[pv b] w fun e w' => e = .returned (.int .i64 (bc l).length) ∧ w' = w :=
    Any.Builder_Len_f (ρ := Tryz.lays105_ren) { Tryz.lays105 with } b b (bc l) w h
  rw [bc_len] at c
  exact cl_of c fun e w' ⟨h1, h2⟩ => ⟨_, h1, rfl, h2⟩
theorem bstring_spec {w : World} {b : Nat} {l : Bs} (h : Bld w b l) : Cl Tryz.prog 178 [pv b] w fun v w' => v = stv l ∧ Bld w' b l ∧ Fm (fun x => b ≤ x) w w' := by
  have c : Calls Tryz.prog 178 #[pv b] w fun e w' => e = .returned (.string ⟨l.toArray⟩) ∧ (Lib.IsBuilderF 202 5 b b (Lib.byteCells l) w' ∧ Below b w w' ∧ Lib.OthersKept 5 (some b) w w') :=
    Any.Builder_String_any_k (ρ := Tryz.lays105_ren) { Tryz.lays105 with } Tryz.bldExtra b b l w h (Nat.le_of_lt h.lt)
  exact cl_of c fun e w' ⟨h1, h2, h3, _⟩ => ⟨_, h1, rfl, h2, Fm.of_belowB h3⟩

/-! ### Repeat, Trim -/
theorem repeat_spec (w : World) (n : Nat) (hn : n ≤ 140737488355328) : Cl Tryz.prog 95 [stv [0], iv n] w fun v w' => v = stv (zeros n) ∧ Fm (fun _ => False) w w' := by
  have c : Calls Tryz.prog 95 #[stv [0], iv n] w fun e w' => e = .returned (.string ⟨(Lib.repeatL (str [0]).data.toList n).toArray⟩) ∧ Below w.heap.size w w' :=
    Any.strings_Repeat (ρ := Tryz.lays105_ren) Tryz.lays105 Tryz.bldExtra (str [0]) n w (by omega) (by rw [str_size]; simpa using hn)
  have e : Lib.repeatL (str [0]).data.toList n = zeros n := by
    have := Lib.repeatL_replicate 0 1 n
    rw [Nat.mul_one] at this
    exact this
  rw [e] at c
  exact cl_of c fun e w' ⟨h1, h2⟩ => ⟨_, h1, rfl, Fm.of_below h2 _⟩
theorem dropWhile_nil : ∀ (l : Bs), l.dropWhile (· == (0 : UInt8)) = [] ↔ l = zeros l.length
  | [] => by simp [zeros]
  | b :: l => by
    rw [List.dropWhile_cons]
    cases hb : (b == (0 : UInt8)) with
    | true =>
      have : b = 0 := by simpa using hb
      simp only [if_true, dropWhile_nil l, List.length_cons, zeros, List.replicate_succ]
      rw [this]
      simp
    | false =>
      have : b ≠ 0 := by simpa using hb
      simp [zeros, List.replicate_succ, this]
theorem trim_nil (l : Bs) : Lib.trimB l 0 = [] ↔ l = zeros l.length := by
  unfold Lib.trimB Lib.trimLeftB Lib.trimRightB
  rw [dropWhile_nil]
  constructor
  · intro h
    have h2 : (l.reverse.dropWhile (· == (0 : UInt8))) = zeros (l.reverse.dropWhile (· == (0 : UInt8))).length := by
      have := congrArg List.reverse h
      rw [List.reverse_reverse] at this
      rw [this]; simp [zeros]
    cases hd : l.reverse.dropWhile (· == (0 : UInt8)) with
    | nil =>
      have := (dropWhile_nil l.reverse).1 hd
      have := congrArg List.reverse this
      rw [List.reverse_reverse] at this
      rw [this]; simp [zeros]
    | cons x t =>
      rw [hd] at h2
      have hx : x = 0 := by
        have := congrArg List.head? h2
        simp [zeros, List.replicate_succ] at this; exact this
      have := List.head?_dropWhile_not (p := (· == (0 : UInt8))) (l := l.reverse)
      rw [hd] at this
      simp [hx] at this
  · intro h
    have h2 : l.reverse = zeros l.reverse.length := by rw [h]; simp [zeros]
    rw [(dropWhile_nil l.reverse).2 h2]
    rfl
theorem trim_spec (w : World) (l : Bs) (hl : l.length ≤ 9223372036854775807) : Cl Tryz.prog 117 [stv l, stv [0]] w fun v w' => (∃ t, v = stv t ∧ (t = [] ↔ l = zeros l.length)) ∧ Fm (fun _ => False) w w' := by
  have c : Calls Tryz.prog 117 #[stv l, stv [0]] w fun e w' => e = .returned (.string ⟨(Lib.trimB (str l).data.toList 0).toArray⟩) ∧ (w' = w ∨ w' = w.drew) :=
    Any.strings_Trim_one (ρ := Tryz.lays160_ren) Tryz.lays160 (str l) 0 (by decide) w (by rw [str_size]; exact hl)
  refine cl_of c fun e w' ⟨h1, h2⟩ => ⟨_, h1, ⟨_, rfl, trim_nil l⟩, ?_⟩
  rcases h2 with rfl | rfl
  · exact Fm.refl _ _
  · exact Fm.drew _ _

/-! ### Clone, Equal, Insert, Delete -/
theorem E22 : ElemT Tryz.prog 59 9 1 16 := elemT_of Tryz.underlying59 (by kernel_rfl)
theorem bs22e (w : World) : (Instr.buildSlice 59 0 #[]).run Tryz.prog w = .ok (.slice (some ⟨w.heap.size, 0, none⟩) 0 0) (w.alloc (.cells #[] 9)) := by kernel_rfl
theorem stv_one (xs : List Bs) : ∀ u ∈ xs.map stv, u.oneCell' = true := by
  intro u hu
  obtain ⟨x, _, rfl⟩ := List.mem_map.1 hu
  rfl
theorem clone_spec {w : World} {v : Value} {xs : List Bs} (h : CellsAt w v xs.length 1 (xs.map stv)) (hs : xs.length * 16 ≤ 140737488355328) : Cl Tryz.prog 106 [v] w fun r w' => w'.ownsRow w.heap.size 9 1 r xs.length (xs.map stv) ∧ Fm (fun _ => False) w w' := by
  refine c106 ?_; unfold T106
  obtain ⟨⟨a, c, hv, h1, h2, h3, h4⟩, hl⟩ := id h
  cases a with
  | none =>
    subst hv
    obtain ⟨e1, e2⟩ := h3 rfl
    have e3 : binV (TypeDesc.slice 9) .eql (.slice none xs.length c) (.slice none 0 0) = some (.bool true) := rfl
    simp only [RS0, RS1, RS2, RS3, RS4, RS5, e3]
    have : xs = [] := List.eq_nil_of_length_eq_zero e1
    subst this
    exact ⟨World.ownsRow_nil _ _ _ _, Fm.refl _ _⟩
  | some ad =>
    subst hv
    have e3 : binV (TypeDesc.slice 9) .eql (.slice (some ad) xs.length c) (.slice none 0 0) = some (.bool false) := rfl
    simp only [RS0, RS1, RS2, RS3, RS4, RS5, e3]
    refine RunS_ok (bs22e w) ?_
    have ho2 := own_alloc (w := w) (e := 9) (l := []) (by simp [maxLen]) (Nat.le_refl _)
    have hf2 := Fm.alloc (fun _ => False) w (.cells #[] 9)
    replace ho2 : (w.alloc (.cells #[] 9)).ownsRow w.heap.size 9 1 (.slice (some ⟨w.heap.size, 0, none⟩) 0 0) 0 [] := ho2
    generalize w.alloc (.cells #[] 9) = w2 at ho2 hf2
    obtain ⟨lv, w3, hr3, ho3, hf3⟩ := append_srcO E22 (by omega) ho2 (h.keep hf2 (fun _ _ e => e)) (stv_one xs) 59 (by unfold maxLen; omega) (by omega) hf2.size
    refine RunS_ok hr3 ?_
    rw [Nat.zero_add, List.nil_append] at ho3
    exact ⟨ho3, Fm.own hf2 hf3 (fun y hy => by have := own_lt ho2 y hy; omega)⟩
theorem equal_spec {w : World} {v u : Value} {xs ys : List Bs} (h : CellsAt w v xs.length 1 (xs.map stv)) (k : CellsAt w u ys.length 1 (ys.map stv)) : Cl Tryz.prog 207 [v, u] w fun r w' => r = .bool (decide (xs = ys)) ∧ Fm (fun _ => False) w w' := by
  have hlt := h.lt
  unfold maxLen at hlt
  refine c207 ?_; unfold T207
  simp only [RS0, RS1, RS2, RS3, RS4, RS5, h.lenV, k.lenV, bne_dec]
  by_cases hl : xs.length = ys.length
  · rw [show decide ((xs.length : Int) = (ys.length : Int)) = true by rw [decide_eq_true_eq]; omega]
    simp only [RS0, RS1, RS2, RS3, RS4, RS5, h.lenV]
    refine ⟨fun vs w2 => ∃ i : Nat, vs = [iv i] ∧ i ≤ xs.length ∧ xs.take i = ys.take i ∧ Fm (fun _ => False) w w2, fun vs _ => (xs.length - nth vs 0).toNat, ⟨0, rfl, by omega, rfl, Fm.refl _ _⟩, ?_⟩
    rintro _ w2 ivv ⟨i, hvs, hi, heq, hf2⟩
    cases hvs
    by_cases hlt2 : i < xs.length
    · have e1 : decide ((i : Int) < (xs.length : Int)) = true := by rw [decide_eq_true_eq]; omega
      have e2 : IntKind.i64.wrap ((i : Int) + 1) = ((i + 1 : Nat) : Int) := by rw [wrap_id] <;> omega
      have hx : xs[i]? = some xs[i] := List.getElem?_eq_getElem hlt2
      have hy : ys[i]? = some ys[i] := List.getElem?_eq_getElem (by omega)
      generalize xs[i] = x at hx
      generalize ys[i] = y at hy
      have hf3 := Fm.drew (fun _ => False) w2
      obtain ⟨ad, hix, _, hc⟩ := h.at1 (i := i) (x := stv x) (by rw [List.getElem?_map, hx]; rfl) .i64
      obtain ⟨ad', hix', _, hc'⟩ := k.at1 (i := i) (x := stv y) (by rw [List.getElem?_map, hy]; rfl) .i64
      have hc2 := hf2.cell' hc (fun e => e)
      have hc2' := hf2.cell' hc' (fun e => e)
      have htk : decide (x = y) = true → xs.take (i + 1) = ys.take (i + 1) := by
        intro e
        have e : x = y := by simpa using e
        rw [List.take_add_one, List.take_add_one, heq, hx, hy, e]
      simp only [RS0, RS1, RS2, RS3, RS4, RS5, e1, hix, hc2, true_and, hix', hc2', str_inj]
      cases hd : decide (x = y) with
      | true =>
        simp only [RS0, RS1, RS2, RS3, RS4, RS5, e2]
        exact ⟨⟨i + 1, rfl, by omega, htk hd, Fmf hf2 hf3⟩, by simp only [nth_0]; omega⟩
      | false =>
        simp only [RS0, RS1, RS2, RS3, RS4, RS5]
        refine ⟨?_, Fmf hf2 hf3⟩
        congr 1; symm
        rw [decide_eq_false_iff_not] at hd ⊢
        rintro rfl
        rw [hx] at hy; cases hy
        exact hd rfl
    · have hie : i = xs.length := by omega
      subst hie
      have e1 : decide (((xs.length : Nat) : Int) < (xs.length : Int)) = false := by simp
      rw [List.take_length, List.take_of_length_le (by omega)] at heq
      simp only [RS0, RS1, RS2, RS3, RS4, RS5, e1]
      refine ⟨?_, hf2⟩
      congr 1; symm; simpa using heq
  · rw [show decide ((xs.length : Int) = (ys.length : Int)) = false by rw [decide_eq_false_iff_not]; omega]
    simp only [RS0, RS1, RS2, RS3, RS4, RS5]
    refine ⟨?_, Fm.refl _ _⟩
    congr 1; symm
    rw [decide_eq_false_iff_not]
    rintro rfl
    exact hl rfl

end YthbngnlmgplijaaGreatDoor
end Go.Proofs

namespace Go.Proofs.YthbngnlmgplijaaGreatDoor
open Go.Al Go.Proofs
set_option linter.unusedVariables false
set_option linter.unusedSimpArgs false
set_option linter.unusedSectionVars false
set_option maxRecDepth 100000

/-! ### A page in the heap -/
def pcs (p : Pg) (v : Value) : Array Value := #[iv p.lsn, iv p.kind, iv p.level, iv p.right, stv p.high, v]
structure PgAs (w : World) (cs : Array Value) (p : Pg) : Prop where
  ex : ∃ v, cs = pcs p v ∧ v.oneCell' = true ∧ CellsAt w v p.items.length 1 (p.items.map stv)
  small : ∀ x ∈ p.items, x.length ≤ 140737488355328
  ins : In p.lsn ∧ In p.kind ∧ In p.level ∧ In p.right ∧ p.high.length ≤ 140737488355328 ∧ p.items.length * 16 ≤ 140737488355328
theorem PgAs.keep {w w' : World} {cs : Array Value} {p : Pg} (h : PgAs w cs p) (hf : Fm (fun _ => False) w w') : PgAs w' cs p := by
  obtain ⟨v, h1, h2, h3⟩ := h.ex
  exact ⟨⟨v, h1, h2, h3.keep hf (fun _ _ e => e)⟩, h.small, h.ins⟩
theorem PgAs.size {w : World} {cs : Array Value} {p : Pg} (h : PgAs w cs p) : cs.size = 6 := by obtain ⟨v, rfl, _⟩ := h.ex; rfl
theorem PgAs.one {w : World} {cs : Array Value} {p : Pg} (h : PgAs w cs p) : ∀ u ∈ cs.toList, u.oneCell' = true := by
  obtain ⟨v, rfl, h2, _⟩ := h.ex
  intro u hu
  simp [pcs] at hu
  rcases hu with rfl | rfl | rfl | rfl | rfl | rfl <;> first | rfl | assumption
def PB (w : World) (g : Nat) (p : Pg) (v : Value) : Prop := w.heap[g]? = some (.cells (pcs p v) 61)
section
variable {S : Nat → Prop} {w w' : World} {g : Nat} {p : Pg} {v : Value}
theorem PB.keep (h : PB w g p v) (hf : Fm S w w') (hs : ¬ S g) : PB w' g p v := hf.heap h hs
theorem PB.c0 (h : PB w g p v) : w.cell? ⟨g, 0, none⟩ = some (iv p.lsn) := by rw [cell_at h]; rfl
theorem PB.c1 (h : PB w g p v) : w.cell? ⟨g, 1, none⟩ = some (iv p.kind) := by rw [cell_at h]; rfl
theorem PB.c2 (h : PB w g p v) : w.cell? ⟨g, 2, none⟩ = some (iv p.level) := by rw [cell_at h]; rfl
theorem PB.c3 (h : PB w g p v) : w.cell? ⟨g, 3, none⟩ = some (iv p.right) := by rw [cell_at h]; rfl
theorem PB.c4 (h : PB w g p v) : w.cell? ⟨g, 4, none⟩ = some (stv p.high) := by rw [cell_at h]; rfl
theorem PB.c5 (h : PB w g p v) : w.cell? ⟨g, 5, none⟩ = some v := by rw [cell_at h]; rfl
theorem PB.all (h : PB w g p v) : cellsV w ⟨g, 0, none⟩ 6 = some (.agg (pcs p v)) := cellsV_blk h rfl
theorem PB.lt (h : PB w g p v) : g < w.heap.size := lt_of_heap h
end

/-! ### Sizes -/
theorem wrap_add2 (a b : Int) : IntKind.i64.wrap (IntKind.i64.wrap a + b) = IntKind.i64.wrap (a + b) := by
  unfold IntKind.wrap; simp [IntKind.bits, IntKind.signed]; omega
def pszF (p : Pg) (i : Nat) : Nat := (p.items.take i).foldl (fun n it => n + (2 + it.length)) (20 + p.high.length)
theorem pszF_full (p : Pg) : pszF p p.items.length = pSize p := by unfold pszF pSize; rw [List.take_length]
theorem pszF_succ (p : Pg) {i : Nat} {x : Bs} (h : p.items[i]? = some x) : pszF p (i + 1) = pszF p i + (2 + x.length) := foldl_take' _ _ h
theorem size_bound {w : World} {cs : Array Value} {p : Pg} (h : PgAs w cs p) (hn : p.items.length ≤ 255) : pSize p ≤ 40000000000000000 := by
  have key : ∀ (l : List Bs) (n : Nat), (∀ x ∈ l, x.length ≤ 140737488355328) → l.foldl (fun n it => n + (2 + it.length)) n ≤ n + l.length * 140737488355330 := by
    intro l
    induction l with
    | nil => intro n _; simp
    | cons x l ih =>
      intro n hx
      have := ih (n + (2 + x.length)) (fun y hy => hx y (List.mem_cons_of_mem _ hy))
      have := hx x (by simp)
      simp only [List.foldl_cons, List.length_cons]
      omega
  have := key p.items (20 + p.high.length) h.small
  have := h.ins
  unfold pSize
  omega
theorem size_spec {w : World} {cs : Array Value} {p : Pg} (h : PgAs w cs p) : Cl Tryz.prog 213 [.agg cs] w fun r w' => r = iv (IntKind.i64.wrap (pSize p)) ∧ Fm (fun _ => False) w w' := by
  obtain ⟨v, rfl, _, hc⟩ := h.ex
  have hi := h.ins
  have hlt := hc.lt
  unfold maxLen at hlt
  refine c213 ?_; unfold T213
  refine New_any ?_
  intro g w1 hg hs1 hw1 hf1
  replace hw1 : PB w1 g p v := hw1
  have e0 : IntKind.i64.wrap (20 + (p.high.length : Int)) = ((20 + p.high.length : Nat) : Int) := by rw [wrap_id] <;> omega
  have hlen := hc.lenV
  simp only [RS0, RS1, RS2, RS3, RS4, RS5, hw1.c4, str_size, e0, hw1.c5, hlen]
  refine ⟨fun vs w2 => ∃ i : Nat, vs = [iv (IntKind.i64.wrap (pszF p i : Nat)), iv i] ∧ i ≤ p.items.length ∧ w2 = w1, fun vs _ => (p.items.length - nth vs 1).toNat, ⟨0, by rw [show pszF p 0 = 20 + p.high.length by simp [pszF], wrap_id (by omega)]; rfl, by omega, rfl⟩, ?_⟩
  rintro _ w2 nv ivv ⟨i, hvs, hi2, rfl⟩
  cases hvs
  by_cases hl : i < p.items.length
  · have e1 : decide ((i : Int) < (p.items.length : Int)) = true := by rw [decide_eq_true_eq]; omega
    have e2 : IntKind.i64.wrap ((i : Int) + 1) = ((i + 1 : Nat) : Int) := by rw [wrap_id] <;> omega
    have hx : p.items[i]? = some p.items[i] := List.getElem?_eq_getElem hl
    have hxm : p.items[i] ∈ p.items := List.getElem_mem hl
    generalize p.items[i] = x at hx hxm
    have hxl := h.small x hxm
    obtain ⟨ad, hix, _, hcx⟩ := (hc.keep hf1 (fun _ _ e => e)).at1 (i := i) (x := stv x) (by rw [List.getElem?_map, hx]; rfl) .i64
    have e3 : IntKind.i64.wrap (2 + (x.length : Int)) = ((2 + x.length : Nat) : Int) := by rw [wrap_id] <;> omega
    have e4 : IntKind.i64.wrap (IntKind.i64.wrap (pszF p i : Nat) + ((2 + x.length : Nat) : Int)) = IntKind.i64.wrap (pszF p (i + 1) : Nat) := by
      rw [wrap_add2, pszF_succ p hx]; congr 1
    simp only [RS0, RS1, RS2, RS3, RS4, RS5, e1, hix, hcx, str_size, e3, e4, e2]
    exact ⟨⟨i + 1, rfl, by omega, (by trivial)⟩, by simp only [nth_1]; omega⟩
  · obtain rfl : i = p.items.length := by omega
    have e1 : decide (((p.items.length : Nat) : Int) < (p.items.length : Int)) = false := by simp
    simp only [RS0, RS1, RS2, RS3, RS4, RS5, e1]
    exact ⟨by rw [pszF_full], hf1⟩
theorem rsize_spec {w : World} {cs : Array Value} {p : Pg} (h : PgAs w cs p) : Cl Tryz.prog 193 [.agg cs] w fun r w' => r = iv (IntKind.i64.wrap (pSize p)) ∧ Fm (fun _ => False) w w' := by
  obtain ⟨v, rfl, _, hc⟩ := h.ex
  have hi := h.ins
  have hlt := hc.lt
  unfold maxLen at hlt
  refine c193 ?_; unfold T193
  refine New_any ?_
  intro g w1 hg hs1 hw1 hf1
  replace hw1 : PB w1 g p v := hw1
  have e0 : IntKind.i64.wrap (20 + (p.high.length : Int)) = ((20 + p.high.length : Nat) : Int) := by rw [wrap_id] <;> omega
  have hlen := hc.lenV
  simp only [RS0, RS1, RS2, RS3, RS4, RS5, hw1.c4, str_size, e0]
  refine ⟨fun vs w2 => ∃ i : Nat, vs = [iv (IntKind.i64.wrap (pszF p i : Nat)), iv i] ∧ i ≤ p.items.length ∧ w2 = w1, fun vs _ => (p.items.length - nth vs 1).toNat, ⟨0, by rw [show pszF p 0 = 20 + p.high.length by simp [pszF], wrap_id (by omega)]; rfl, by omega, rfl⟩, ?_⟩
  rintro _ w2 nv ivv ⟨i, hvs, hi2, rfl⟩
  cases hvs
  by_cases hl : i < p.items.length
  · have e1 : decide ((i : Int) < (p.items.length : Int)) = true := by rw [decide_eq_true_eq]; omega
    have e2 : IntKind.i64.wrap ((i : Int) + 1) = ((i + 1 : Nat) : Int) := by rw [wrap_id] <;> omega
    have hx : p.items[i]? = some p.items[i] := List.getElem?_eq_getElem hl
    have hxm : p.items[i] ∈ p.items := List.getElem_mem hl
    generalize p.items[i] = x at hx hxm
    have hxl := h.small x hxm
    obtain ⟨ad, hix, _, hcx⟩ := (hc.keep hf1 (fun _ _ e => e)).at1 (i := i) (x := stv x) (by rw [List.getElem?_map, hx]; rfl) .i64
    have e4 : IntKind.i64.wrap (IntKind.i64.wrap (IntKind.i64.wrap (pszF p i : Nat) + 2) + (x.length : Int)) = IntKind.i64.wrap (pszF p (i + 1) : Nat) := by
      rw [wrap_add2, Int.add_assoc, wrap_add2, pszF_succ p hx]; congr 1
    simp only [RS0, RS1, RS2, RS3, RS4, RS5, hw1.c5, hlen, e1, hix, hcx, str_size, e4, e2]
    exact ⟨⟨i + 1, rfl, by omega, (by trivial)⟩, by simp only [nth_1]; omega⟩
  · obtain rfl : i = p.items.length := by omega
    have e1 : decide (((p.items.length : Nat) : Int) < (p.items.length : Int)) = false := by simp
    simp only [RS0, RS1, RS2, RS3, RS4, RS5, hw1.c5, hlen, e1]
    exact ⟨by rw [pszF_full], hf1⟩
def fitsB (p : Pg) : Bool := decide (p.items.length ≤ 255) && decide (pSize p ≤ 512)
theorem fits_spec {w : World} {cs : Array Value} {p : Pg} (h : PgAs w cs p) : Cl Tryz.prog 180 [.agg cs] w fun r w' => r = .bool (fitsB p) ∧ Fm (fun _ => False) w w' := by
  obtain ⟨v, hcs, _, hc⟩ := h.ex
  refine c180 ?_; unfold T180
  refine New_any ?_
  intro g w1 hg hs1 hw1 hf1
  have hb : PB w1 g p v := by rw [PB, ← hcs]; exact hw1
  have hall := hb.all
  rw [← hcs] at hall
  have hlen := hc.lenV
  have d1 : decide ((p.items.length : Int) ≤ 255) = decide (p.items.length ≤ 255) := by rw [decide_eq_decide]; omega
  unfold fitsB
  simp only [RS0, RS1, RS2, RS3, RS4, RS5, hb.c5, hlen, d1]
  cases hd : decide (p.items.length ≤ 255) with
  | false =>
    simp only [RS0, RS1, RS2, RS3, RS4, RS5, Bool.false_and]
    exact ⟨(by trivial), hf1⟩
  | true =>
    have hsb := size_bound h (by simpa using hd)
    simp only [RS0, RS1, RS2, RS3, RS4, RS5, hall]
    refine (size_spec (h.keep hf1)).mono ?_
    rintro _ w2 ⟨rfl, hf2⟩
    have d2 : decide (IntKind.i64.wrap (pSize p) ≤ 512) = decide (pSize p ≤ 512) := by rw [wrap_nat (by omega), decide_eq_decide]; omega
    simp only [RS0, RS1, RS2, RS3, RS4, RS5, d2, Bool.true_and]
    exact ⟨(by trivial), Fmf hf1 hf2⟩

end Go.Proofs.YthbngnlmgplijaaGreatDoor

namespace Go.Proofs.YthbngnlmgplijaaGreatDoor
open Go.Al Go.Proofs
set_option linter.unusedVariables false
set_option linter.unusedSimpArgs false
set_option linter.unusedSectionVars false
set_option maxRecDepth 100000

def rangeB (p : Pg) : Bool := decide (p.lsn < 0 ∨ p.level < 0 ∨ p.right < 0 ∨ p.kind < 1 ∨ 3 < p.kind ∨ 255 < p.level ∨ 4294967295 < p.right)
def longB (p : Pg) : Bool := decide (255 < p.high.length ∨ 255 < p.items.length ∨ 512 < pSize p)
theorem pErr_eq (p : Pg) : pErr p = bif rangeB p then 4 else bif longB p then 3 else 0 := rfl
def encR (p : Pg) : Value := .tuple #[stv (pEnc p).1, iv (pEnc p).2]
theorem encR_range {p : Pg} (h : rangeB p = true) : encR p = .tuple #[stv [], iv 4] := by
  have : pErr p = 4 := by rw [pErr_eq, h]; rfl
  unfold encR; rw [pEnc_bad (by rw [this]; decide), this]
theorem encR_long {p : Pg} (h : rangeB p = false) (h2 : longB p = true) : encR p = .tuple #[stv [], iv 3] := by
  have : pErr p = 3 := by rw [pErr_eq, h, h2]; rfl
  unfold encR; rw [pEnc_bad (by rw [this]; decide), this]
theorem pErr_zero {p : Pg} (h : rangeB p = false) (h2 : longB p = false) : pErr p = 0 := by rw [pErr_eq, h, h2]; rfl
theorem encR_ok {p : Pg} (h : pErr p = 0) : encR p = .tuple #[stv (beN 4 (crc (pText p)) ++ pText p), iv 0] := by unfold encR; rw [pEnc_ok h]
theorem fold_min3 (a b c : Int) : foldV0 min2V [iv a, iv b, iv c] = some (iv (if c < (if b < a then b else a) then c else (if b < a then b else a))) := rfl
theorem bigB_nn {n : Int} {k : Nat} (h0 : 0 ≤ n) (h1 : 1 ≤ k) (h8 : k ≤ 8) : bigB n (k : Int) = beN k n.toNat := by
  have := bigB_of (n := n.toNat) h1 h8
  rw [Int.toNat_of_nonneg h0] at this; exact this
theorem sadd {a b : Bs} (h : a.length + b.length ≤ 9223372036854775807) : binV TypeDesc.string .add (stv a) (stv b) = some (stv (a ++ b)) := binV_sadd _ a b h
theorem flat_take {l : List Bs} {i : Nat} {x : Bs} (h : l[i]? = some x) : (l.take (i + 1)).flatMap itB = (l.take i).flatMap itB ++ itB x := by
  rw [List.take_add_one, h, List.flatMap_append]; simp
theorem flat_le (l : List Bs) (i : Nat) : ((l.take i).flatMap itB).length ≤ (l.flatMap itB).length := by
  have : l.flatMap itB = (l.take i).flatMap itB ++ (l.drop i).flatMap itB := by rw [← List.flatMap_append, List.take_append_drop]
  rw [this, List.length_append]; omega
theorem crc_in (l : Bs) : In (crc l : Nat) ∧ IntKind.i64.wrap (crc l : Nat) = ((crc l : Nat) : Int) := by
  have := crc_lt l
  exact ⟨by unfold In; omega, wrap_nat (by omega)⟩

set_option maxHeartbeats 4000000 in
theorem encode_spec {w : World} {cs : Array Value} {p : Pg} (h : PgAs w cs p) : Cl Tryz.prog 103 [.agg cs] w fun r w' => r = encR p ∧ Fm (fun _ => False) w w' := by
  obtain ⟨v, rfl, hone, hc⟩ := h.ex
  have hin := h.ins
  have hclt := hc.lt
  unfold maxLen at hclt
  refine c103 ?_; unfold T103
  refine New_any ?_
  intro x1 w1 hx1 hs1 hw1 hf1
  replace hw1 : PB w1 x1 p v := hw1
  have hc1 := hc.keep hf1 (fun _ _ e => e)
  have hlen := hc.lenV
  refine Jn_at (fun vs w2 => vs = [.bool (rangeB p)] ∧ w2 = w1) ?_ ?_
  · rintro _ w2 ⟨rfl, rfl⟩ _
    refine ⟨_, rfl, ?_⟩
    cases hr : rangeB p with
    | true =>
      simp only [RS0, RS1, RS2, RS3, RS4, RS5]
      exact ⟨(encR_range hr).symm, hf1⟩
    | false =>
    simp only [RS0, RS1, RS2, RS3, RS4, RS5]
    refine Jn_at (fun vs w3 => vs = [.bool (longB p)] ∧ PB w3 x1 p v ∧ Fm (fun _ => False) w2 w3) ?_ ?_
    · rintro _ w3 ⟨rfl, hw3, hf3⟩ _
      refine ⟨_, rfl, ?_⟩
      have hF3 := Fmf hf1 hf3
      cases hl : longB p with
      | true =>
        simp only [RS0, RS1, RS2, RS3, RS4, RS5]
        exact ⟨(encR_long hr hl).symm, hF3⟩
      | false =>
      simp only [RS0, RS1, RS2, RS3, RS4, RS5]
      have hok := pErr_zero hr hl
      obtain ⟨⟨b1, b2, b3, b4, b5, b6, b7⟩, b8, b9, b10⟩ := pErr_ok hok
      have hbl := pBody_len p
      refine New_any ?_
      intro b w4 hb hs4 hw4 hf4
      have hB4 := Bld.new hw4
      have hf5 := Fm.drew (fun _ => False) w4
      have hB5 := hB4.keep hf5
      have hP4 := hw3.keep hf4 (fun e => e)
      have hP5 : PB w4.drew x1 p v := hP4.keep hf5 (fun e => e)
      have hF5 : Fm (fun _ => False) w w4.drew := Fmf hF3 (Fmf hf4 hf5)
      have hxb : x1 < b ∧ w.heap.size ≤ b := by have := hw3.lt; have := hF3.size; omega
      generalize w4.drew = w5 at hB5 hP5 hF5
      have upB : ∀ {a c : World}, Fm (fun _ => False) a c → Fm (fun y => b ≤ y) a c := fun hf => hf.mono (fun _ _ e => e.elim)
      refine ⟨fun w => PB w x1 p v, hP5, ?_⟩
      simp only [RS0, RS1, RS2, RS3, RS4, RS5, hP4.c0, hP5.c0, true_and]
      refine ⟨iv p.kind, fun w6 h6 => ?_, ?_⟩
      · simp only [RS0, RS1, RS2, RS3, RS4, RS5, h6.c1]; trivial
      refine ⟨iv p.level, fun w6 h6 => ?_, ?_⟩
      · simp only [RS0, RS1, RS2, RS3, RS4, RS5, h6.c2]; trivial
      refine ⟨iv p.right, fun w6 h6 => ?_, ?_⟩
      · simp only [RS0, RS1, RS2, RS3, RS4, RS5, h6.c3]; trivial
      refine (big_spec w5 hin.1 8).mono ?_
      rintro _ w6 ⟨rfl, hf6⟩
      have hP6 := hP5.keep hf6 (fun e => e)
      refine ⟨hP6, ?_⟩
      refine (big_spec w6 hin.2.1 1).mono ?_
      rintro _ w7 ⟨rfl, hf7⟩
      have hP7 := hP6.keep hf7 (fun e => e)
      refine ⟨hP7, ?_⟩
      have g1 : bigB p.lsn 8 = beN 8 p.lsn.toNat := bigB_nn (k := 8) b1 (by omega) (by omega)
      have g2 : bigB p.kind 1 = beN 1 p.kind.toNat := bigB_nn (k := 1) (by omega) (by omega) (by omega)
      have g3 : bigB p.level 1 = beN 1 p.level.toNat := bigB_nn (k := 1) b2 (by omega) (by omega)
      have g4 : bigB p.right 4 = beN 4 p.right.toNat := bigB_nn (k := 4) b3 (by omega) (by omega)
      rw [g1, g2, sadd (by rw [beN_len, beN_len]; omega)]
      try simp only [RS0, RS1, RS2, RS3, RS4, RS5]
      refine (big_spec w7 hin.2.2.1 1).mono ?_
      rintro _ w8 ⟨rfl, hf8⟩
      have hP8 := hP7.keep hf8 (fun e => e)
      refine ⟨hP8, ?_⟩
      rw [g3, sadd (by simp only [List.length_append, beN_len]; omega)]
      try simp only [RS0, RS1, RS2, RS3, RS4, RS5]
      refine (big_spec w8 hin.2.2.2.1 4).mono ?_
      rintro _ w9 ⟨rfl, hf9⟩
      have hP9 := hP8.keep hf9 (fun e => e)
      rw [g4, sadd (by simp only [List.length_append, beN_len]; omega)]
      try simp only [RS0, RS1, RS2, RS3, RS4, RS5]
      have hF59 := Fmf (Fmf hf6 hf7) (Fmf hf8 hf9)
      have hB9 := hB5.keep hF59
      refine (bwrite_spec hB9 _ (by simp only [List.length_append, beN_len, List.length_nil]; omega)).mono ?_
      rintro _ w10 ⟨hB10, hf10⟩
      have hP10 := hP9.keep hf10 (by omega)
      have hf11 := Fm.drew (fun _ => False) w10
      have hB11 := hB10.keep hf11
      have hP11 := hP10.keep hf11 (fun e => e)
      have hF11 : Fm (fun _ => False) w w10.drew := Fmf (Fm.own (Fmf hF5 hF59) hf10 (fun y hy => by omega)) hf11
      generalize w10.drew = w11 at hB11 hP11 hF11
      refine ⟨fun w => PB w x1 p v, hP11, ?_⟩
      simp only [RS0, RS1, RS2, RS3, RS4, RS5, hP10.c5, hP11.c5, true_and, hlen]
      refine ⟨stv p.high, fun w6 h6 => ?_, ?_⟩
      · simp only [RS0, RS1, RS2, RS3, RS4, RS5, h6.c4]; trivial
      simp only [RS0, RS1, RS2, RS3, RS4, RS5, str_size]
      refine ⟨stv p.high, fun w6 h6 => ?_, ?_⟩
      · simp only [RS0, RS1, RS2, RS3, RS4, RS5, h6.c4]; trivial
      refine (big_spec w11 (n := (p.items.length : Nat)) (by unfold In; omega) 1).mono ?_
      rintro _ w12 ⟨rfl, hf12⟩
      have hP12 := hP11.keep hf12 (fun e => e)
      refine ⟨hP12, ?_⟩
      refine (big_spec w12 (n := (p.high.length : Nat)) (by unfold In; omega) 1).mono ?_
      rintro _ w13 ⟨rfl, hf13⟩
      have hP13 := hP12.keep hf13 (fun e => e)
      refine ⟨hP13, ?_⟩
      have g5 : bigB (p.items.length : Nat) 1 = beN 1 p.items.length := bigB_of (n := p.items.length) (w := 1) (by omega) (by omega)
      have g6 : bigB (p.high.length : Nat) 1 = beN 1 p.high.length := bigB_of (n := p.high.length) (w := 1) (by omega) (by omega)
      rw [g5, g6, sadd (by simp only [List.length_append, beN_len]; omega)]
      try simp only [RS0, RS1, RS2, RS3, RS4, RS5]
      rw [sadd (by simp only [List.length_append, beN_len]; omega)]
      try simp only [RS0, RS1, RS2, RS3, RS4, RS5]
      have hB13 := hB11.keep (Fmf hf12 hf13)
      refine (bwrite_spec hB13 _ (by simp only [List.length_append, beN_len, List.length_nil]; omega)).mono ?_
      rintro _ w14 ⟨hB14, hf14⟩
      have hP14 := hP13.keep hf14 (by omega)
      have hF14 : Fm (fun _ => False) w w14 := Fm.own (Fmf hF11 (Fmf hf12 hf13)) hf14 (fun y hy => by omega)
      have hhead : [] ++ (beN 8 p.lsn.toNat ++ beN 1 p.kind.toNat ++ beN 1 p.level.toNat ++ beN 4 p.right.toNat) ++ (beN 1 p.items.length ++ beN 1 p.high.length ++ p.high) = pHead p := by
        simp only [pHead, List.nil_append, List.append_assoc]
      rw [hhead] at hB14
      simp only [RS0, RS1, RS2, RS3, RS4, RS5, hP14.c5, hlen]
      refine ⟨fun vs w15 => ∃ i : Nat, vs = [iv i] ∧ i ≤ p.items.length ∧ Bld w15 b (pHead p ++ (p.items.take i).flatMap itB) ∧ PB w15 x1 p v ∧ Fm (fun _ => False) w w15, fun vs _ => (p.items.length - nth vs 0).toNat, ⟨0, rfl, by omega, by simpa using hB14, hP14, hF14⟩, ?_⟩
      rintro _ w15 ivv ⟨i, hvs, hi, hB15, hP15, hF15⟩
      cases hvs
      have hpl : (pBody p).length = (pHead p).length + (p.items.flatMap itB).length := by rw [pBody, List.length_append]
      by_cases hlt : i < p.items.length
      · have e1 : decide ((i : Int) < (p.items.length : Int)) = true := by rw [decide_eq_true_eq]; omega
        have e2 : IntKind.i64.wrap ((i : Int) + 1) = ((i + 1 : Nat) : Int) := by rw [wrap_id] <;> omega
        have hx : p.items[i]? = some p.items[i] := List.getElem?_eq_getElem hlt
        have hxm : p.items[i] ∈ p.items := List.getElem_mem hlt
        generalize p.items[i] = x at hx hxm
        have hxs := item_short b10 x hxm
        have hfl := flat_le p.items (i + 1)
        rw [flat_take hx, List.length_append, itB_len] at hfl
        obtain ⟨ad, hix, _, hcx⟩ := (hc.keep hF15 (fun _ _ e => e)).at1 (i := i) (x := stv x) (by rw [List.getElem?_map, hx]; rfl) .i64
        simp only [RS0, RS1, RS2, RS3, RS4, RS5, e1, hix, hcx, str_size]
        refine (big_spec w15 (n := (x.length : Nat)) (by unfold In; omega) 2).mono ?_
        rintro _ w16 ⟨rfl, hf16⟩
        have g7 : bigB (x.length : Nat) 2 = beN 2 x.length := bigB_of (n := x.length) (w := 2) (by omega) (by omega)
        rw [g7, sadd (by simp only [List.length_append, beN_len]; omega)]
        try simp only [RS0, RS1, RS2, RS3, RS4, RS5]
        refine (bwrite_spec (hB15.keep hf16) _ (by simp only [List.length_append, beN_len]; omega)).mono ?_
        rintro _ w17 ⟨hB17, hf17⟩
        simp only [RS0, RS1, RS2, RS3, RS4, RS5, e2]
        refine ⟨⟨i + 1, rfl, by omega, ?_, (hP15.keep hf16 (fun e => e)).keep hf17 (by omega), Fm.own (Fmf hF15 hf16) hf17 (fun y hy => by omega)⟩, by simp only [nth_0]; omega⟩
        rw [flat_take hx, ← List.append_assoc]; exact hB17
      · obtain rfl : i = p.items.length := by omega
        have e1 : decide (((p.items.length : Nat) : Int) < (p.items.length : Int)) = false := by simp
        rw [List.take_length, show pHead p ++ p.items.flatMap itB = pBody p from rfl] at hB15
        simp only [RS0, RS1, RS2, RS3, RS4, RS5, e1]
        refine (blen_spec hB15).mono ?_
        rintro _ w15 ⟨rfl, rfl⟩
        have e3 : IntKind.i64.wrap (508 - ((pBody p).length : Int)) = ((508 - (pBody p).length : Nat) : Int) := by rw [wrap_id] <;> omega
        simp only [RS0, RS1, RS2, RS3, RS4, RS5, e3]
        refine (repeat_spec w15 (508 - (pBody p).length) (by omega)).mono ?_
        rintro _ w16 ⟨rfl, hf16⟩
        refine (bwrite_spec (hB15.keep hf16) _ (by rw [zeros_len]; omega)).mono ?_
        rintro _ w17 ⟨hB17, hf17⟩
        rw [show pBody p ++ zeros (508 - (pBody p).length) = pText p from rfl] at hB17
        have hF17 := Fm.own (Fmf hF15 hf16) hf17 (fun y hy => by omega)
        refine (bstring_spec hB17).mono ?_
        rintro _ w18 ⟨rfl, hB18, hf18⟩
        have htl := pText_len b10
        refine (sum_spec w18 (pText p) (by omega)).mono ?_
        rintro _ w18 ⟨rfl, rfl⟩
        obtain ⟨q1, q2⟩ := crc_in (pText p)
        simp only [RS0, RS1, RS2, RS3, RS4, RS5, cvI_int, q2]
        refine (big_spec w18 q1 4).mono ?_
        rintro _ w19 ⟨rfl, hf19⟩
        refine (bstring_spec (hB18.keep hf19)).mono ?_
        rintro _ w20 ⟨rfl, hB20, hf20⟩
        have g8 : bigB (crc (pText p) : Nat) 4 = beN 4 (crc (pText p)) := bigB_of (n := crc (pText p)) (w := 4) (by omega) (by omega)
        rw [g8, sadd (by rw [beN_len]; omega)]
        try simp only [RS0, RS1, RS2, RS3, RS4, RS5]
        refine ⟨(encR_ok hok).symm, Fm.own (Fmf (Fm.own hF17 hf18 (fun y hy => by omega)) hf19) hf20 (fun y hy => by omega)⟩
    · intro jj hjj
      have d1 : decide ((255 : Int) < (p.high.length : Int)) = decide (255 < p.high.length) := by rw [decide_eq_decide]; omega
      have hall := hw1.all
      simp only [RS0, RS1, RS2, RS3, RS4, RS5, hw1.c4, str_size, d1]
      cases hd : decide (255 < p.high.length) with
      | true =>
        simp only [RS0, RS1, RS2, RS3, RS4, RS5]
        refine hjj _ _ ⟨?_, hw1, Fm.refl _ _⟩
        have : longB p = true := by unfold longB; rw [decide_eq_true_eq] at hd ⊢; exact .inl hd
        rw [this]
      | false =>
        simp only [RS0, RS1, RS2, RS3, RS4, RS5, hall]
        refine (fits_spec (p := p) ⟨⟨v, rfl, hone, hc1⟩, h.small, h.ins⟩).mono ?_
        rintro _ w3 ⟨rfl, hf3⟩
        simp only [RS0, RS1, RS2, RS3, RS4, RS5]
        refine hjj _ _ ⟨?_, hw1.keep hf3 (fun e => e), hf3⟩
        congr 2
        unfold fitsB longB
        rw [decide_eq_false_iff_not] at hd
        by_cases h1 : p.items.length ≤ 255
        · by_cases h2 : pSize p ≤ 512
          · simp [h1, h2]; omega
          · simp [h1, h2]; omega
        · simp [h1]; omega
  · intro jj hjj
    have fin : ∀ b : Bool, rangeB p = b → jj [.bool b] w1 := fun b hb => hjj _ _ ⟨by rw [hb], rfl⟩
    have hmin : decide ((if p.right < (if p.level < p.lsn then p.level else p.lsn) then p.right else (if p.level < p.lsn then p.level else p.lsn)) < 0) = decide (p.lsn < 0 ∨ p.level < 0 ∨ p.right < 0) := by
      rw [decide_eq_decide]; split <;> split <;> omega
    simp only [RS0, RS1, RS2, RS3, RS4, RS5, hw1.c0, hw1.c2, hw1.c3, fold_min3, hmin]
    cases h1 : decide (p.lsn < 0 ∨ p.level < 0 ∨ p.right < 0) with
    | true => simp only [RS0, RS1, RS2, RS3, RS4, RS5]; exact fin _ (by unfold rangeB; simp only [decide_eq_true_eq] at *; omega)
    | false =>
    simp only [RS0, RS1, RS2, RS3, RS4, RS5, hw1.c1]
    cases h2 : decide (p.kind < 1) with
    | true => simp only [RS0, RS1, RS2, RS3, RS4, RS5]; exact fin _ (by unfold rangeB; simp only [decide_eq_true_eq] at *; omega)
    | false =>
    simp only [RS0, RS1, RS2, RS3, RS4, RS5, hw1.c1]
    cases h3 : decide (3 < p.kind) with
    | true => simp only [RS0, RS1, RS2, RS3, RS4, RS5]; exact fin _ (by unfold rangeB; simp only [decide_eq_true_eq] at *; omega)
    | false =>
    simp only [RS0, RS1, RS2, RS3, RS4, RS5, hw1.c2]
    cases h4 : decide (255 < p.level) with
    | true => simp only [RS0, RS1, RS2, RS3, RS4, RS5]; exact fin _ (by unfold rangeB; simp only [decide_eq_true_eq] at *; omega)
    | false =>
    simp only [RS0, RS1, RS2, RS3, RS4, RS5, hw1.c3]
    refine fin _ ?_
    unfold rangeB
    rw [decide_eq_decide]
    simp only [decide_eq_false_iff_not] at *
    omega

end Go.Proofs.YthbngnlmgplijaaGreatDoor

namespace Go.Proofs.YthbngnlmgplijaaGreatDoor
open Go.Al Go.Proofs
set_option linter.unusedVariables false
set_option linter.unusedSimpArgs false
set_option linter.unusedSectionVars false
set_option maxRecDepth 100000

/-! ### A page whose list is the call's own -/
structure PgOw (w : World) (base : Nat) (cs : Array Value) (p : Pg) : Prop where
  ex : ∃ v, cs = pcs p v ∧ w.ownsRow base 9 1 v p.items.length (p.items.map stv)
  small : ∀ x ∈ p.items, x.length ≤ 140737488355328
  ins : In p.lsn ∧ In p.kind ∧ In p.level ∧ In p.right ∧ p.high.length ≤ 140737488355328 ∧ p.items.length * 16 ≤ 140737488355328
theorem PgOw.as {w : World} {base : Nat} {cs : Array Value} {p : Pg} (h : PgOw w base cs p) : PgAs w cs p := by
  obtain ⟨v, h1, h2⟩ := h.ex
  exact ⟨⟨v, h1, own_one h2, CellsAt.of_own h2⟩, h.small, h.ins⟩
theorem PgOw.keep {w w' : World} {base : Nat} {cs : Array Value} {p : Pg} (h : PgOw w base cs p) (hf : Fm (fun _ => False) w w') : PgOw w' base cs p := by
  obtain ⟨v, h1, h2⟩ := h.ex
  exact ⟨⟨v, h1, own_keep h2 hf (fun _ _ _ _ e => e)⟩, h.small, h.ins⟩
theorem PgOw.zero (w : World) (base : Nat) : PgOw w base (pcs pg0 (.slice none 0 0)) pg0 := ⟨⟨_, rfl, World.ownsRow_nil _ _ _ _⟩, by simp [pg0], by simp [pg0, In]⟩

theorem bld24z (w : World) : (Instr.build 61 #[]).run Tryz.prog w = .ok (.agg (pcs pg0 (.slice none 0 0))) w := by kernel_rfl
theorem bld24a (a b c d : Int) (w : World) : (Instr.build 61 #[(0, iv a), (1, iv b), (2, iv c), (3, iv d)]).run Tryz.prog w = .ok (.agg (pcs ⟨a, b, c, d, [], []⟩ (.slice none 0 0))) w := by kernel_rfl
theorem agg24 : aggB Tryz.prog 61 = some true := by kernel_rfl
theorem size24 : sizeB Tryz.prog 61 = some 6 := by kernel_rfl
theorem retPg {w : World} {g i j : Nat} {cs : Array Value} {u : Value} (h : w.heap[g]? = some (.cells cs 61)) (hn : cs.size = 6) {f : Fr} (hf : f i = pv g) (hj : f j = u) (k : KV) (hk : k (.tuple #[.agg cs, u]) w) : RetO (resL Tryz.prog f w [.cell i 61, .tmp j]) w k := by
  have hj' : resV Tryz.prog f w (.tmp j) = some u := by simp only [resV, hj]
  simp only [resL, resV_blk hf agg24 size24 h hn, hj', RetO, RetV]; exact hk
theorem ixS_getD {d : Bs} {k : Nat} (h : k < d.length) : ixS (stv d) (.int .i64 k) = some (.int .u8 ((d.getD k 0).toNat : Nat)) := by
  have : d[k]? = some (d.getD k 0) := by rw [List.getD_eq_getElem?_getD, List.getElem?_eq_getElem h]; rfl
  exact ixS_str this .i64
theorem u8_i64 (b : UInt8) : IntKind.i64.wrap (b.toNat : Nat) = ((b.toNat : Nat) : Int) := by have := b.toNat_lt; exact wrap_nat (by omega)

/-! ### cut -/
def SB (w : World) (g : Nat) (s : Bs) : Prop := w.heap[g]? = some (.cells #[stv s] 9)
theorem SB.keep {S : Nat → Prop} {w w' : World} {g : Nat} {s : Bs} (h : SB w g s) (hf : Fm S w w') (hs : ¬ S g) : SB w' g s := hf.heap h hs
theorem SB.c {w : World} {g : Nat} {s : Bs} (h : SB w g s) : w.cell? ⟨g, 0, none⟩ = some (stv s) := by rw [cell_at h]; rfl
theorem cut_spec {w : World} {g : Nat} {s : Bs} (h : SB w g s) (n : Nat) : Cl Tryz.prog 116 [pv g, iv n] w fun r w' => r = .tuple #[stv (bif decide (n ≤ s.length) then s.take n else []), .bool (decide (n ≤ s.length))] ∧ SB w' g (bif decide (n ≤ s.length) then s.drop n else s) ∧ Fm (· = g) w w' := by
  refine c116 ?_; unfold T116
  have d1 : decide ((s.length : Int) < (n : Int)) = !decide (n ≤ s.length) := by
    by_cases hn : n ≤ s.length
    · simp [hn]
    · simp [hn]; omega
  simp only [RS0, RS1, RS2, RS3, RS4, RS5, h.c, str_size, d1]
  cases hd : decide (n ≤ s.length) with
  | false =>
    simp only [RS0, RS1, RS2, RS3, RS4, RS5]
    exact ⟨(by trivial), h, Fm.refl _ _⟩
  | true =>
    rw [decide_eq_true_eq] at hd
    simp only [RS0, RS1, RS2, RS3, RS4, RS5, h.c, slS_hi hd .i64, slS_lo hd .i64]
    refine St_blk h (by show 0 < 1; decide) rfl ?_
    intro w2 hw2 hs2 hf2
    exact ⟨rfl, hw2, hf2⟩

/-! ### What bytes give -/
theorem pDec_len {d : Bs} (h : d.length ≠ 512) : pDec d = (pg0, 31) := by
  unfold pDec
  rw [show decide (d.length ≠ 512) = true by simpa using h]; rfl
theorem pDec_sum {d : Bs} (h : d.length = 512) (h2 : beN 4 (crc (d.drop 4)) ≠ d.take 4) : pDec d = (pg0, 30) := by
  unfold pDec
  rw [show decide (d.length ≠ 512) = false by simpa using h, show decide (beN 4 (crc (d.drop 4)) ≠ d.take 4) = true by rw [decide_eq_true_eq]; exact h2]; rfl
theorem pDec_none {d : Bs} (h : d.length = 512) (h2 : beN 4 (crc (d.drop 4)) = d.take 4) (h3 : pItems (dMany d) (dRest d) = none) : pDec d = (pg0, 31) := by
  unfold pDec
  rw [show decide (d.length ≠ 512) = false by simpa using h, show decide (beN 4 (crc (d.drop 4)) ≠ d.take 4) = false by rw [decide_eq_false_iff_not]; exact fun e => e h2, h3]; rfl
def badD (d t : Bs) : Bool := decide (t ≠ zeros t.length) || decide (127 < (d.getD 4 0).toNat) || decide (dKind d < 1) || decide (3 < dKind d)
def headP (d : Bs) (l : List Bs) : Pg := ⟨(dLsn d % 2 ^ 63 : Nat), dKind d, dLevel d, dRight d, dHigh d, l⟩
theorem pDec_some {d : Bs} (h : d.length = 512) (h2 : beN 4 (crc (d.drop 4)) = d.take 4) {l : List Bs} {t : Bs} (h3 : pItems (dMany d) (dRest d) = some (l, t)) : pDec d = bif badD d t then (pg0, 31) else (headP d l, 0) := by
  unfold pDec
  rw [show decide (d.length ≠ 512) = false by simpa using h, show decide (beN 4 (crc (d.drop 4)) ≠ d.take 4) = false by rw [decide_eq_false_iff_not]; exact fun e => e h2, h3]
  have : badD d t = decide (t ≠ zeros t.length ∨ 127 < (d.getD 4 0).toNat ∨ dKind d < 1 ∨ 3 < dKind d) := by
    unfold badD
    simp only [Bool.decide_or, Bool.or_assoc]
  rw [this]; rfl
theorem headP_in {d : Bs} (h : d.length = 512) {l : List Bs} (hl : l.length ≤ 255) : In (headP d l).lsn ∧ In (headP d l).kind ∧ In (headP d l).level ∧ In (headP d l).right ∧ (headP d l).high.length ≤ 140737488355328 ∧ (headP d l).items.length * 16 ≤ 140737488355328 := by
  have h1 : dKind d < 256 := UInt8.toNat_lt _
  have h2 : dLevel d < 256 := UInt8.toNat_lt _
  have h3 : dRight d < 256 ^ 4 := ofB_lt 4 _ (by rw [List.length_take, List.length_drop]; omega)
  have h4 : (dHigh d).length ≤ 512 := by unfold dHigh; rw [List.length_take, List.length_drop]; omega
  unfold headP In
  simp only
  omega

/-- The items that are read, one after the other. -/
theorem pItems_succ (n : Nat) (s : Bs) : pItems (n + 1) s = bif decide (2 ≤ s.length) && decide (ofB (s.take 2) ≤ (s.drop 2).length) then (pItems n ((s.drop 2).drop (ofB (s.take 2)))).map (fun x => ((s.drop 2).take (ofB (s.take 2)) :: x.1, x.2)) else none := by
  rw [pItems]
  by_cases h1 : s.length < 2
  · simp [h1, show ¬ 2 ≤ s.length by omega]
  · by_cases h2 : (s.drop 2).length < ofB (s.take 2)
    · have e2 : decide (ofB (s.take 2) ≤ (s.drop 2).length) = false := by rw [decide_eq_false_iff_not]; omega
      have e3 : decide (s.length < 2) = false := by rw [decide_eq_false_iff_not]; exact h1
      have e4 : decide ((s.drop 2).length < ofB (s.take 2)) = true := by rw [decide_eq_true_eq]; exact h2
      rw [e2, e3, e4, Bool.and_false]; rfl
    · have e1 : decide (2 ≤ s.length) = true := by rw [decide_eq_true_eq]; omega
      have e2 : decide (ofB (s.take 2) ≤ (s.drop 2).length) = true := by rw [decide_eq_true_eq]; omega
      have e3 : decide (s.length < 2) = false := by rw [decide_eq_false_iff_not]; exact h1
      have e4 : decide ((s.drop 2).length < ofB (s.take 2)) = false := by rw [decide_eq_false_iff_not]; exact h2
      rw [e1, e2, e3, e4]; rfl
/-- What stands after i items: those taken, the rest. -/
def Mid (d : Bs) (i : Nat) (l : List Bs) (s : Bs) : Prop := l.length = i ∧ (∀ x ∈ l, x.length ≤ 512) ∧ s.length ≤ 492 ∧ pItems (dMany d) (dRest d) = (pItems (dMany d - i) s).map (fun x => (l ++ x.1, x.2))
theorem Mid.zero {d : Bs} (h : d.length = 512) : Mid d 0 [] (dRest d) := by
  refine ⟨rfl, by simp, ?_, ?_⟩
  · unfold dRest; simp only [List.length_drop]; omega
  · rw [Nat.sub_zero]
    cases pItems (dMany d) (dRest d) <;> simp
theorem Mid.next {d : Bs} {i : Nat} {l : List Bs} {s : Bs} (h : Mid d i l s) (hi : i < dMany d) (h1 : 2 ≤ s.length) (h2 : ofB (s.take 2) ≤ (s.drop 2).length) : Mid d (i + 1) (l ++ [(s.drop 2).take (ofB (s.take 2))]) ((s.drop 2).drop (ofB (s.take 2))) := by
  obtain ⟨a, b, c, e⟩ := h
  refine ⟨by simp [a], ?_, ?_, ?_⟩
  · intro x hx
    rcases List.mem_append.1 hx with hx | hx
    · exact b x hx
    · obtain rfl : x = _ := by simpa using hx
      simp only [List.length_take, List.length_drop]; omega
  · simp only [List.length_drop]; omega
  · rw [e, show dMany d - i = (dMany d - (i + 1)) + 1 by omega, pItems_succ, show decide (2 ≤ s.length) = true by simpa using h1, show decide (ofB (s.take 2) ≤ (s.drop 2).length) = true by simpa using h2]
    simp only [Bool.and_true, cond_true, Option.map_map]
    congr 1
    funext x
    simp
theorem Mid.stop {d : Bs} {i : Nat} {l : List Bs} {s : Bs} (h : Mid d i l s) (hi : i < dMany d) (h1 : ¬ (2 ≤ s.length ∧ ofB (s.take 2) ≤ (s.drop 2).length)) : pItems (dMany d) (dRest d) = none := by
  rw [h.2.2.2, show dMany d - i = (dMany d - (i + 1)) + 1 by omega, pItems_succ]
  have : (decide (2 ≤ s.length) && decide (ofB (s.take 2) ≤ (s.drop 2).length)) = false := by
    rw [← Bool.not_eq_true, Bool.and_eq_true, decide_eq_true_eq, decide_eq_true_eq]; exact h1
  rw [this]; rfl
theorem Mid.last {d : Bs} {l : List Bs} {s : Bs} (h : Mid d (dMany d) l s) : pItems (dMany d) (dRest d) = some (l, s) := by
  rw [h.2.2.2, Nat.sub_self, pItems]; simp
theorem bs22 (x : Bs) (w : World) : (Instr.buildSlice 59 1 #[(0, stv x)]).run Tryz.prog w = .ok (.slice (some ⟨w.heap.size, 0, none⟩) 1 1) (w.alloc (.cells #[stv x] 9)) := by kernel_rfl

set_option maxHeartbeats 8000000 in
theorem decode_spec (w : World) (d : Bs) (hd : d.length ≤ 9223372036854775806) : Cl Tryz.prog 41 [stv d] w fun r w' => ∃ cs, r = .tuple #[.agg cs, iv (pDec d).2] ∧ PgOw w' w.heap.size cs (pDec d).1 ∧ Fm (fun _ => False) w w' := by
  refine c41 ?_; unfold T41
  refine New_any ?_
  intro x2 w1 hx2 hs1 hw1 hf1
  have ret : ∀ (w' : World) (cs0 : Array Value) (e : Int) (f : Fr), w'.heap[x2]? = some (.cells cs0 61) → cs0.size = 6 → Fm (fun _ => False) w w' → f 2 = pv x2 → f 3 = iv e → pDec d = (pg0, e) → 
      ((∀ w'' : World, w''.heap[x2]? = some (.cells (pcs pg0 (.slice none 0 0)) 61) → Fm (fun _ => False) w w'' → RetO (resL Tryz.prog f w'' [.cell 2 61, .tmp 3]) w'' (fun r w' => ∃ cs, r = .tuple #[.agg cs, iv (pDec d).2] ∧ PgOw w' w.heap.size cs (pDec d).1 ∧ Fm (fun _ => False) w w'))) := by
    intro w' cs0 e f h1 h2 h3 h4 h5 h6 w'' h7 h8
    refine retPg (u := iv e) h7 rfl h4 h5 _ ?_
    rw [h6]
    exact ⟨_, rfl, PgOw.zero _ _, h8⟩
  have d0 : decide ((d.length : Int) = 512) = decide (d.length = 512) := by rw [decide_eq_decide]; omega
  simp only [RS0, RS1, RS2, RS3, RS4, RS5, str_size, bne_dec, d0]
  cases h0 : decide (d.length = 512) with
  | false =>
    have hne : d.length ≠ 512 := by simpa using h0
    simp only [RS0, RS1, RS2, RS3, RS4, RS5]
    refine RunS_ok (bld24z _) ?_
    refine St_all hw1 rfl rfl (by intro u hu; simp [pcs] at hu; rcases hu with rfl | rfl | rfl | rfl | rfl | rfl <;> rfl) ?_
    intro w2 hw2 hs2 hf2
    exact ret w1 _ 31 _ hw1 rfl hf1 rfl rfl (pDec_len hne) w2 hw2 (Fm.own hf1 hf2 (by rintro y rfl; omega))
  | true =>
  have h512 : d.length = 512 := by simpa using h0
  have s1 : slS (stv d) (some (Value.int .i64 4)) none = some (stv (d.drop 4)) := slS_lo (i := 4) (by omega) .i64
  have s2 : slS (stv d) none (some (Value.int .i64 4)) = some (stv (d.take 4)) := slS_hi (i := 4) (by omega) .i64
  have hf2 := Fm.drew (fun _ => False) w1
  have hx2' : w1.drew.heap[x2]? = some (.cells #[iv 0, iv 0, iv 0, iv 0, stv [], .slice none 0 0] 61) := hw1
  have hF2 := Fmf hf1 hf2
  simp only [RS0, RS1, RS2, RS3, RS4, RS5, s1, s2]
  generalize w1.drew = w2 at hf2 hx2' hF2
  refine (sum_spec w2 (d.drop 4) (by rw [List.length_drop]; omega)).mono ?_
  rintro _ w2 ⟨rfl, rfl⟩
  obtain ⟨q1, q2⟩ := crc_in (d.drop 4)
  simp only [RS0, RS1, RS2, RS3, RS4, RS5, cvI_int, q2]
  refine (big_spec w2 q1 4).mono ?_
  rintro _ w3 ⟨rfl, hf3⟩
  have g8 : bigB (crc (d.drop 4) : Nat) 4 = beN 4 (crc (d.drop 4)) := bigB_of (n := crc (d.drop 4)) (w := 4) (by omega) (by omega)
  have hx3 := hf3.heap hx2' (fun e => e)
  have hF3 := Fmf hF2 hf3
  rw [g8]
  simp only [RS0, RS1, RS2, RS3, RS4, RS5, str_inj]
  cases hsum : decide (beN 4 (crc (d.drop 4)) = d.take 4) with
  | false =>
    have hne : beN 4 (crc (d.drop 4)) ≠ d.take 4 := by simpa using hsum
    simp only [RS0, RS1, RS2, RS3, RS4, RS5]
    refine RunS_ok (bld24z _) ?_
    refine St_all hx3 rfl rfl (by intro u hu; simp [pcs] at hu; rcases hu with rfl | rfl | rfl | rfl | rfl | rfl <;> rfl) ?_
    intro w4 hw4 hs4 hf4
    exact ret w3 _ 30 _ hx3 rfl hF3 rfl rfl (pDec_sum h512 hne) w4 hw4 (Fm.own hF3 hf4 (by rintro y rfl; omega))
  | true =>
  have hse : beN 4 (crc (d.drop 4)) = d.take 4 := by simpa using hsum
  simp only [RS0, RS1, RS2, RS3, RS4, RS5]
  have hx2s : x2 = w.heap.size := hx2
  refine Jn_at (fun vs w4 => ∃ g4, vs = [pv g4] ∧ PB w4 g4 ⟨(dLsn d % 2 ^ 63 : Nat), dKind d, dLevel d, dRight d, [], []⟩ (.slice none 0 0) ∧ g4 ≠ x2 ∧ w.heap.size ≤ g4 ∧ w4.heap[x2]? = some (.cells #[iv 0, iv 0, iv 0, iv 0, stv [], .slice none 0 0] 61) ∧ Fm (fun _ => False) w w4) ?_ ?_
  · rintro _ w4 ⟨g4, rfl, hP4, hne4, hge4, hx4, hF4⟩ _
    refine ⟨_, rfl, ?_⟩
    have s3 : slS (stv d) (some (Value.int .i64 20)) none = some (stv (d.drop 20)) := slS_lo (i := 20) (by omega) .i64
    have i19 : ixS (stv d) (Value.int .i64 19) = some (.int .u8 ((dHl d : Nat))) := ixS_getD (k := 19) (by omega)
    have i18 : ixS (stv d) (Value.int .i64 18) = some (.int .u8 ((dMany d : Nat))) := ixS_getD (k := 18) (by omega)
    have c19 : IntKind.i64.wrap (dHl d : Nat) = ((dHl d : Nat) : Int) := u8_i64 _
    have c18 : IntKind.i64.wrap (dMany d : Nat) = ((dMany d : Nat) : Int) := u8_i64 _
    have hhl : dHl d < 256 := UInt8.toNat_lt _
    have hmy : dMany d < 256 := UInt8.toNat_lt _
    have hg4l := hP4.lt
    simp only [RS0, RS1, RS2, RS3, RS4, RS5, s3]
    refine New_any ?_
    intro x5 w5 hx5 hs5 hw5 hf5
    refine St_blk hw5 (by show 0 < 1; decide) rfl ?_
    intro w6 hw6 hs6 hf6
    replace hw6 : SB w6 x5 (d.drop 20) := hw6
    have hf46 : Fm (fun _ => False) w4 w6 := Fm.own hf5 hf6 (by rintro y rfl; omega)
    have hP6 := hP4.keep hf46 (fun e => e)
    have hx6 := hf46.heap hx4 (fun e => e)
    have hF6 := Fmf hF4 hf46
    have hz4 := hF4.size
    have hx2l := lt_of_heap hx4
    simp only [RS0, RS1, RS2, RS3, RS4, RS5, i19, cvI_int, c19]
    refine (cut_spec hw6 (dHl d)).mono ?_
    rintro _ w7 ⟨rfl, hS7, hf7⟩
    have hle : decide (dHl d ≤ (d.drop 20).length) = true := by rw [decide_eq_true_eq, List.length_drop]; omega
    rw [hle, cond_true] at hS7
    rw [hle, cond_true]
    have hP7 := hP6.keep hf7 (by omega)
    have hx7 := hf7.heap hx6 (by omega)
    have hF7 : Fm (fun _ => False) w w7 := Fm.own hF6 hf7 (by rintro y rfl; omega)
    simp only [RS0, RS1, RS2, RS3, RS4, RS5]
    refine St_blk hP7 (by show 4 < 6; decide) rfl ?_
    intro w8 hw8 hs8 hf8
    replace hw8 : PB w8 g4 (headP d []) (.slice none 0 0) := hw8
    have hS8 : SB w8 x5 (dRest d) := hS7.keep hf8 (by omega)
    have hx8 := hf8.heap hx7 (fun e => hne4 e.symm)
    have hF8 : Fm (fun _ => False) w w8 := Fm.own hF7 hf8 (by rintro y rfl; omega)
    have hl6 := hw6.keep hf7
    have hz6 : x5 < w8.heap.size := lt_of_heap hS8
    simp only [RS0, RS1, RS2, RS3, RS4, RS5, i18, cvI_int, c18]
    refine ⟨fun vs w9 => ∃ (i : Nat) (l : List Bs) (s : Bs) (v : Value), vs = [iv i] ∧ i ≤ dMany d ∧ Mid d i l s ∧ PB w9 g4 (headP d l) v ∧ w9.ownsRow (x5 + 1) 9 1 v l.length (l.map stv) ∧ SB w9 x5 s ∧ w9.heap[x2]? = some (.cells #[iv 0, iv 0, iv 0, iv 0, stv [], .slice none 0 0] 61) ∧ Fm (fun _ => False) w w9, fun vs _ => (dMany d - nth vs 0).toNat,
      ⟨0, [], dRest d, _, rfl, by omega, Mid.zero h512, hw8, World.ownsRow_nil _ _ _ _, hS8, hx8, hF8⟩, ?_⟩
    rintro _ w9 ivv ⟨i, l, s, v, hvs, hi, hM, hP9, hO9, hS9, hx9, hF9⟩
    cases hvs
    have hll := hM.1
    have hz9 : x5 < w9.heap.size := lt_of_heap hS9
    have hg9 := hP9.lt
    have hx29 := lt_of_heap hx9
    by_cases hlt : i < dMany d
    · have e1 : decide ((i : Int) < (dMany d : Int)) = true := by rw [decide_eq_true_eq]; omega
      have e2 : IntKind.i64.wrap ((i : Int) + 1) = ((i + 1 : Nat) : Int) := by rw [wrap_id] <;> omega
      simp only [RS0, RS1, RS2, RS3, RS4, RS5, e1]
      refine (cut_spec hS9 2).mono ?_
      rintro _ w10 ⟨rfl, hS10, hf10⟩
      have hP10 := hP9.keep hf10 (by omega)
      have hx10 := hf10.heap hx9 (by omega)
      have hF10 : Fm (fun _ => False) w w10 := Fm.own hF9 hf10 (by rintro y rfl; omega)
      have hO10 := own_keep hO9 hf10 (fun k h1 h2 h3 e => by omega)
      by_cases h2 : 2 ≤ s.length
      · have e3 : decide (2 ≤ s.length) = true := by simpa using h2
        rw [e3, cond_true] at hS10
        rw [e3, cond_true]
        have htl : (s.take 2).length = 2 := by rw [List.length_take]; omega
        simp only [RS0, RS1, RS2, RS3, RS4, RS5]
        refine (of_spec w10 (s.take 2) (by omega)).mono ?_
        rintro _ w10 ⟨rfl, rfl⟩
        rw [ofN_short (by omega)]
        refine (cut_spec hS10 (ofB (s.take 2))).mono ?_
        rintro _ w11 ⟨rfl, hS11, hf11⟩
        have hP11 := hP10.keep hf11 (by omega)
        have hx11 := hf11.heap hx10 (by omega)
        have hF11 : Fm (fun _ => False) w w11 := Fm.own hF10 hf11 (by rintro y rfl; omega)
        have hO11 := own_keep hO10 hf11 (fun k h1 h2 h3 e => by omega)
        by_cases h3 : ofB (s.take 2) ≤ (s.drop 2).length
        · have e4 : decide (ofB (s.take 2) ≤ (s.drop 2).length) = true := by simpa using h3
          rw [e4, cond_true] at hS11
          rw [e4, cond_true]
          have hM2 := hM.next hlt h2 h3
          generalize (s.drop 2).take (ofB (s.take 2)) = it at hM2
          generalize (s.drop 2).drop (ofB (s.take 2)) = s' at hM2 hS11
          simp only [RS0, RS1, RS2, RS3, RS4, RS5, hP11.c5]
          have hz11 : x5 < w11.heap.size := lt_of_heap hS11
          refine append_el E22 (by omega) 59 (cs := [stv it]) rfl (bs22 _ _) (by intro u hu; simp at hu; subst hu; rfl) hO11 (by unfold maxLen; omega) (by omega) hz11 ?_
          intro v12 w12 hO12 _ hf12
          have hP12 := hP11.keep hf12 (by omega)
          have hx12 := hf12.heap hx11 (by omega)
          have hS12 := hS11.keep hf12 (by omega)
          have hF12 : Fm (fun _ => False) w w12 := Fm.own hF11 hf12 (fun y hy => by omega)
          try simp only [RS0, RS1, RS2, RS3, RS4, RS5]
          refine St_blk hP12 (by show 5 < 6; decide) (own_one hO12) ?_
          intro w13 hw13 hs13 hf13
          replace hw13 : PB w13 g4 (headP d (l ++ [it])) v12 := hw13
          simp only [RS0, RS1, RS2, RS3, RS4, RS5, e2]
          refine ⟨⟨i + 1, l ++ [it], s', v12, rfl, by omega, hM2, hw13, ?_, hS12.keep hf13 (by omega), hf13.heap hx12 (fun e => hne4 e.symm), Fm.own hF12 hf13 (by rintro y rfl; omega)⟩, by simp only [nth_0]; omega⟩
          have : w13.ownsRow (x5 + 1) 9 1 v12 (l.length + 1) (l.map stv ++ [stv it]) := own_keep hO12 hf13 (fun k h1 h2 h3 e => by omega)
          simpa using this
        · have e4 : decide (ofB (s.take 2) ≤ (s.drop 2).length) = false := by simpa using h3
          rw [e4]
          simp only [RS0, RS1, RS2, RS3, RS4, RS5]
          refine RunS_ok (bld24z _) ?_
          refine St_all hx11 rfl rfl (by intro u hu; simp [pcs] at hu; rcases hu with rfl | rfl | rfl | rfl | rfl | rfl <;> rfl) ?_
          intro w12 hw12 hs12 hf12
          exact ret w11 _ 31 _ hx11 rfl hF11 rfl rfl (pDec_none h512 hse (hM.stop hlt (fun e => h3 e.2))) w12 hw12 (Fm.own hF11 hf12 (by rintro y rfl; omega))
      · have e3 : decide (2 ≤ s.length) = false := by simpa using h2
        rw [e3, cond_false] at hS10
        rw [e3, cond_false]
        simp only [RS0, RS1, RS2, RS3, RS4, RS5]
        refine (of_spec w10 [] (by simp)).mono ?_
        rintro _ w10 ⟨rfl, rfl⟩
        have eo : ofN [] = 0 := rfl
        rw [eo]
        refine (cut_spec hS10 0).mono ?_
        rintro _ w11 ⟨rfl, hS11, hf11⟩
        have hx11 := hf11.heap hx10 (by omega)
        have hF11 : Fm (fun _ => False) w w11 := Fm.own hF10 hf11 (by rintro y rfl; omega)
        simp only [RS0, RS1, RS2, RS3, RS4, RS5]
        refine RunS_ok (bld24z _) ?_
        refine St_all hx11 rfl rfl (by intro u hu; simp [pcs] at hu; rcases hu with rfl | rfl | rfl | rfl | rfl | rfl <;> rfl) ?_
        intro w12 hw12 hs12 hf12
        exact ret w11 _ 31 _ hx11 rfl hF11 rfl rfl (pDec_none h512 hse (hM.stop hlt (fun e => h2 e.1))) w12 hw12 (Fm.own hF11 hf12 (by rintro y rfl; omega))
    · have hie : i = dMany d := by omega
      rw [hie] at hM
      have e1 : decide ((i : Int) < (dMany d : Int)) = false := by rw [decide_eq_false_iff_not]; omega
      have hds := pDec_some h512 hse hM.last
      simp only [RS0, RS1, RS2, RS3, RS4, RS5, e1, hS9.c]
      refine (trim_spec w9 s (by have := hM.2.2.1; omega)).mono ?_
      rintro _ w10 ⟨⟨t, rfl, ht⟩, hf10⟩
      have hP10 := hP9.keep hf10 (fun e => e)
      have hx10 := hf10.heap hx9 (fun e => e)
      have hF10 := Fmf hF9 hf10
      have hO10 := own_keep hO9 hf10 (fun _ _ _ _ e => e)
      have bad : badD d s = true → RunS Tryz.prog (Instr.build 61 #[]) w10 (fun t93_149 w_150 =>
          St 6 w_150 (pv x2) t93_149 fun u_151 w_152 =>
          RetO (resL Tryz.prog (fun j => bif Nat.beq j 2 then pv x2 else bif Nat.beq j 3 then (Value.int IntKind.i64 31) else undef) w_152 [(ResultVar.cell 2 61), (ResultVar.tmp 3)]) w_152 (fun r w' => ∃ cs, r = .tuple #[.agg cs, iv (pDec d).2] ∧ PgOw w' w.heap.size cs (pDec d).1 ∧ Fm (fun _ => False) w w')) := by
        intro hb
        rw [hb, cond_true] at hds
        refine RunS_ok (bld24z _) ?_
        refine St_all hx10 rfl rfl (by intro u hu; simp [pcs] at hu; rcases hu with rfl | rfl | rfl | rfl | rfl | rfl <;> rfl) ?_
        intro w12 hw12 hs12 hf12
        exact ret w10 _ 31 _ hx10 rfl hF10 rfl rfl hds w12 hw12 (Fm.own hF10 hf12 (by rintro y rfl; omega))
      have i4 : ixS (stv d) (Value.int .i64 4) = some (.int .u8 (((d.getD 4 0).toNat : Nat))) := ixS_getD (k := 4) (by omega)
      have dk1 : decide (((headP d l).kind) < 1) = decide (dKind d < 1) := by rw [decide_eq_decide]; unfold headP; simp only; omega
      have dk3 : decide (3 < (headP d l).kind) = decide (3 < dKind d) := by rw [decide_eq_decide]; unfold headP; simp only; omega
      have d4 : decide ((127 : Int) < (((d.getD 4 0).toNat : Nat) : Int)) = decide (127 < (d.getD 4 0).toNat) := by rw [decide_eq_decide]; omega
      have ht0 : decide (t = []) = decide (s = zeros s.length) := by rw [decide_eq_decide]; exact ht
      simp only [RS0, RS1, RS2, RS3, RS4, RS5, str_nil, str_inj, ht0]
      unfold badD at bad hds
      cases b1 : decide (s = zeros s.length) with
      | false =>
        simp only [RS0, RS1, RS2, RS3, RS4, RS5]
        refine bad ?_
        have : s ≠ zeros s.length := by simpa using b1
        simp [this]
      | true =>
      have b1' : decide (s ≠ zeros s.length) = false := by simpa using b1
      rw [b1', Bool.false_or] at bad hds
      simp only [RS0, RS1, RS2, RS3, RS4, RS5, i4, d4]
      cases b2 : decide (127 < (d.getD 4 0).toNat) with
      | true => simp only [RS0, RS1, RS2, RS3, RS4, RS5]; exact bad (by rw [b2]; simp)
      | false =>
      rw [b2, Bool.false_or] at bad hds
      simp only [RS0, RS1, RS2, RS3, RS4, RS5, hP10.c1, dk1]
      cases b3 : decide (dKind d < 1) with
      | true => simp only [RS0, RS1, RS2, RS3, RS4, RS5]; exact bad (by rw [b3]; simp)
      | false =>
      rw [b3, Bool.false_or] at bad hds
      simp only [RS0, RS1, RS2, RS3, RS4, RS5, hP10.c1, dk3]
      cases b4 : decide (3 < dKind d) with
      | true => simp only [RS0, RS1, RS2, RS3, RS4, RS5]; exact bad b4
      | false =>
      rw [b4, cond_false] at hds
      simp only [RS0, RS1, RS2, RS3, RS4, RS5, hP10.all]
      refine St_all hx10 rfl rfl (by intro u hu; simp [pcs] at hu; rcases hu with rfl | rfl | rfl | rfl | rfl | rfl <;> first | rfl | exact own_one hO10) ?_
      intro w12 hw12 hs12 hf12
      refine retPg (g := x2) (i := 2) (j := 3) (u := iv 0) hw12 rfl rfl rfl _ ?_
      rw [hds]
      refine ⟨_, rfl, ⟨⟨v, rfl, own_base (own_keep hO10 hf12 (fun k h1 h2 h3 e => by omega)) (by omega)⟩, fun x hx => by have := hM.2.1 x hx; omega, headP_in h512 (by omega)⟩, Fm.own hF10 hf12 (by rintro y rfl; omega)⟩
  · intro jj hjj
    have s4 : slS (stv d) (some (Value.int .i64 4)) (some (Value.int .i64 12)) = some (stv ((d.drop 4).take 8)) := slS_lh (i := 4) (j := 12) (by omega) (by omega) .i64 .i64
    have s5 : slS (stv d) (some (Value.int .i64 14)) (some (Value.int .i64 18)) = some (stv ((d.drop 14).take 4)) := slS_lh (i := 14) (j := 18) (by omega) (by omega) .i64 .i64
    have i12 : ixS (stv d) (Value.int .i64 12) = some (.int .u8 ((dKind d : Nat))) := ixS_getD (k := 12) (by omega)
    have i13 : ixS (stv d) (Value.int .i64 13) = some (.int .u8 ((dLevel d : Nat))) := ixS_getD (k := 13) (by omega)
    have c12 : IntKind.i64.wrap (dKind d : Nat) = ((dKind d : Nat) : Int) := u8_i64 _
    have c13 : IntKind.i64.wrap (dLevel d : Nat) = ((dLevel d : Nat) : Int) := u8_i64 _
    have o1 : ofN ((d.drop 4).take 8) = dLsn d % 2 ^ 63 := rfl
    have o2 : ofN ((d.drop 14).take 4) = dRight d := ofN_short (by rw [List.length_take]; omega)
    have l1 : ((d.drop 4).take 8).length ≤ 9223372036854775806 := by rw [List.length_take]; omega
    have l2 : ((d.drop 14).take 4).length ≤ 9223372036854775806 := by rw [List.length_take]; omega
    have hf4 := Fm.drew (fun _ => False) w3
    have hx4 : w3.drew.heap[x2]? = some (.cells #[iv 0, iv 0, iv 0, iv 0, stv [], .slice none 0 0] 61) := hx3
    have hF4 := Fmf hF3 hf4
    have hz4 := hF4.size
    have hx2l := lt_of_heap hx4
    refine ⟨fun _ => True, trivial, ?_⟩
    simp only [RS0, RS1, RS2, RS3, RS4, RS5, s4, s5, i12, i13, cvI_int, c12, c13, true_and, and_true]
    generalize w3.drew = w4 at hf4 hx4 hF4 hz4 hx2l
    have fin : ∀ (g : Nat) (w5 w6 : World), w4.heap.size ≤ g → Fm (fun _ => False) w4 w5 → w5.heap[g]? = some (.cells #[iv 0, iv 0, iv 0, iv 0, stv [], .slice none 0 0] 61) → w6.heap[g]? = some (.cells (pcs ⟨(dLsn d % 2 ^ 63 : Nat), dKind d, dLevel d, dRight d, [], []⟩ (.slice none 0 0)) 61) → Fm (· = g) w5 w6 → jj [pv g] w6 := by
      intro g w5 w6 h1 h2 h3 h4 h5
      exact hjj _ _ ⟨g, rfl, h4, by omega, by omega, h5.heap (h2.heap hx4 (fun e => e)) (by omega), Fm.own (Fmf hF4 h2) h5 (by rintro y rfl; omega)⟩
    have lay : ∀ u ∈ (pcs ⟨(dLsn d % 2 ^ 63 : Nat), dKind d, dLevel d, dRight d, [], []⟩ (.slice none 0 0)).toList, u.oneCell' = true := by
      intro u hu; simp [pcs] at hu; rcases hu with rfl | rfl | rfl | rfl | rfl | rfl <;> rfl
    refine ⟨?_, ?_⟩
    · refine (of_spec w4 _ l1).mono ?_
      rintro _ w4 ⟨rfl, rfl⟩
      rw [o1]
      refine ⟨?_, ?_⟩
      · refine (of_spec w4 _ l2).mono ?_
        rintro _ w4 ⟨rfl, rfl⟩
        rw [o2]
        refine ⟨_, fun w5 _ => RunS_ok (bld24a _ _ _ _ _) ⟨rfl, rfl⟩, ?_⟩
        refine New_any ?_
        intro g w5 hg hs5 hw5 hf5
        refine St_all hw5 rfl rfl lay ?_
        intro w6 hw6 hs6 hf6
        exact fin g w5 w6 (by omega) hf5 hw5 hw6 hf6
      · refine New_any ?_
        intro g w5 hg hs5 hw5 hf5
        refine (of_spec w5 _ l2).mono ?_
        rintro _ w5 ⟨rfl, rfl⟩
        rw [o2]
        refine RunS_ok (bld24a _ _ _ _ _) ⟨rfl, ?_⟩
        refine St_all hw5 rfl rfl lay ?_
        intro w6 hw6 hs6 hf6
        exact fin g w5 w6 (by omega) hf5 hw5 hw6 hf6
    · refine New_any ?_
      intro g w5 hg hs5 hw5 hf5
      refine (of_spec w5 _ l1).mono ?_
      rintro _ w5 ⟨rfl, rfl⟩
      rw [o1]
      refine (of_spec w5 _ l2).mono ?_
      rintro _ w5 ⟨rfl, rfl⟩
      rw [o2]
      refine RunS_ok (bld24a _ _ _ _ _) ⟨rfl, ?_⟩
      refine St_all hw5 rfl rfl lay ?_
      intro w6 hw6 hs6 hf6
      exact fin g w5 w6 (by omega) hf5 hw5 hw6 hf6

end Go.Proofs.YthbngnlmgplijaaGreatDoor

namespace Go.Proofs.YthbngnlmgplijaaGreatDoor
open Go.Al Go.Proofs
set_option linter.unusedVariables false
set_option linter.unusedSimpArgs false
set_option linter.unusedSectionVars false
set_option maxRecDepth 100000

def sameB (a b : Pg) : Bool := decide (a.items = b.items) && decide (a.lsn = b.lsn) && decide (a.kind = b.kind) && decide (a.level = b.level) && decide (a.right = b.right) && decide (a.high = b.high)
theorem sameB_eq (a b : Pg) : sameB a b = decide (a = b) := by
  obtain ⟨a1, a2, a3, a4, a5, a6⟩ := a
  obtain ⟨b1, b2, b3, b4, b5, b6⟩ := b
  unfold sameB
  rw [Bool.eq_iff_iff]
  simp only [Bool.and_eq_true, decide_eq_true_eq, Pg.mk.injEq]
  constructor
  · rintro ⟨⟨⟨⟨⟨h1, h2⟩, h3⟩, h4⟩, h5⟩, h6⟩; exact ⟨h2, h3, h4, h5, h6, h1⟩
  · rintro ⟨h2, h3, h4, h5, h6, h1⟩; exact ⟨⟨⟨⟨⟨h1, h2⟩, h3⟩, h4⟩, h5⟩, h6⟩
theorem same_spec {w : World} {ca cb : Array Value} {a b : Pg} (ha : PgAs w ca a) (hb : PgAs w cb b) : Cl Tryz.prog 169 [.agg ca, .agg cb] w fun r w' => r = .bool (decide (a = b)) ∧ Fm (fun _ => False) w w' := by
  rw [← sameB_eq]
  obtain ⟨va, rfl, oa, hca⟩ := ha.ex
  obtain ⟨vb, rfl, ob, hcb⟩ := hb.ex
  refine c169 ?_; unfold T169
  refine New_any ?_
  intro xa w1 hxa hs1 hw1 hf1
  refine New_any ?_
  intro xb w2 hxb hs2 hw2 hf2
  replace hw1 : PB w2 xa a va := hf2.heap hw1 (fun e => e)
  replace hw2 : PB w2 xb b vb := hw2
  have hF2 := Fmf hf1 hf2
  simp only [RS0, RS1, RS2, RS3, RS4, RS5, hw1.c5, hw2.c5]
  refine (equal_spec (hca.keep hF2 (fun _ _ e => e)) (hcb.keep hF2 (fun _ _ e => e))).mono ?_
  rintro _ w3 ⟨rfl, hf3⟩
  have hA := hw1.keep hf3 (fun e => e)
  have hB := hw2.keep hf3 (fun e => e)
  have hF3 := Fmf hF2 hf3
  have hne : xa ≠ xb := by omega
  unfold sameB
  simp only [RS0, RS1, RS2, RS3, RS4, RS5]
  cases d0 : decide (a.items = b.items) with
  | false => simp only [RS0, RS1, RS2, RS3, RS4, RS5, Bool.false_and]; exact ⟨(by trivial), hF3⟩
  | true =>
  have hla := hA.lt
  have hlb := hB.lt
  have hz : w2.heap.size = w.heap.size + 2 := by omega
  have hxw : w.heap.size ≤ xa ∧ w.heap.size ≤ xb := by omega
  simp only [RS0, RS1, RS2, RS3, RS4, RS5, Bool.true_and]
  refine St_blk hA (by show 5 < 6; decide) rfl ?_
  intro w4 hw4 hs4 hf4
  replace hw4 : PB w4 xa a (.slice none 0 0) := hw4
  have hB4 := hB.keep hf4 (fun e => hne e.symm)
  try simp only [RS0, RS1, RS2, RS3, RS4, RS5]
  refine St_blk hB4 (by show 5 < 6; decide) rfl ?_
  intro w5 hw5 hs5 hf5
  replace hw5 : PB w5 xb b (.slice none 0 0) := hw5
  have hA5 := hw4.keep hf5 hne
  have hF5 : Fm (fun _ => False) w w5 := Fm.own (Fm.own hF3 hf4 (by rintro y rfl; omega)) hf5 (by rintro y rfl; omega)
  simp only [RS0, RS1, RS2, RS3, RS4, RS5, hA5.c0, hw5.c0, beq_dec]
  cases d1 : decide (a.lsn = b.lsn) with
  | false => simp only [RS0, RS1, RS2, RS3, RS4, RS5, Bool.false_and]; exact ⟨(by trivial), hF5⟩
  | true =>
  simp only [RS0, RS1, RS2, RS3, RS4, RS5, hA5.c1, hw5.c1, beq_dec, Bool.true_and]
  cases d2 : decide (a.kind = b.kind) with
  | false => simp only [RS0, RS1, RS2, RS3, RS4, RS5, Bool.false_and]; exact ⟨(by trivial), hF5⟩
  | true =>
  simp only [RS0, RS1, RS2, RS3, RS4, RS5, hA5.c2, hw5.c2, beq_dec, Bool.true_and]
  cases d3 : decide (a.level = b.level) with
  | false => simp only [RS0, RS1, RS2, RS3, RS4, RS5, Bool.false_and]; exact ⟨(by trivial), hF5⟩
  | true =>
  simp only [RS0, RS1, RS2, RS3, RS4, RS5, hA5.c3, hw5.c3, beq_dec, Bool.true_and]
  cases d4 : decide (a.right = b.right) with
  | false => simp only [RS0, RS1, RS2, RS3, RS4, RS5, Bool.false_and]; exact ⟨(by trivial), hF5⟩
  | true =>
  simp only [RS0, RS1, RS2, RS3, RS4, RS5, hA5.c4, hw5.c4, str_inj, Bool.true_and]
  exact ⟨(by trivial), hF5⟩
theorem rsame_spec {w : World} {ca cb : Array Value} {a b : Pg} (ha : PgAs w ca a) (hb : PgAs w cb b) : Cl Tryz.prog 34 [.agg ca, .agg cb] w fun r w' => r = .bool (decide (a = b)) ∧ Fm (fun _ => False) w w' := by
  obtain ⟨va, rfl, oa, hca⟩ := ha.ex
  obtain ⟨vb, rfl, ob, hcb⟩ := hb.ex
  refine c34 ?_; unfold T34
  refine New_any ?_
  intro xa w1 hxa hs1 hw1 hf1
  refine New_any ?_
  intro xb w2 hxb hs2 hw2 hf2
  replace hw1 : PB w2 xa a va := hf2.heap hw1 (fun e => e)
  replace hw2 : PB w2 xb b vb := hw2
  have hF2 := Fmf hf1 hf2
  have no : ¬ a = b → (Value.bool false = Value.bool (decide (a = b))) := fun h => by rw [show decide (a = b) = false by simpa using h]
  have hlt := hca.lt
  unfold maxLen at hlt
  simp only [RS0, RS1, RS2, RS3, RS4, RS5, hw1.c0, hw2.c0, bne_dec]
  cases d1 : decide (a.lsn = b.lsn) with
  | false => simp only [RS0, RS1, RS2, RS3, RS4, RS5]; exact ⟨no (fun e => by rw [e] at d1; simp at d1), hF2⟩
  | true =>
  simp only [RS0, RS1, RS2, RS3, RS4, RS5, hw1.c1, hw2.c1, bne_dec]
  cases d2 : decide (a.kind = b.kind) with
  | false => simp only [RS0, RS1, RS2, RS3, RS4, RS5]; exact ⟨no (fun e => by rw [e] at d2; simp at d2), hF2⟩
  | true =>
  simp only [RS0, RS1, RS2, RS3, RS4, RS5, hw1.c2, hw2.c2, bne_dec]
  cases d3 : decide (a.level = b.level) with
  | false => simp only [RS0, RS1, RS2, RS3, RS4, RS5]; exact ⟨no (fun e => by rw [e] at d3; simp at d3), hF2⟩
  | true =>
  simp only [RS0, RS1, RS2, RS3, RS4, RS5, hw1.c3, hw2.c3, bne_dec]
  cases d4 : decide (a.right = b.right) with
  | false => simp only [RS0, RS1, RS2, RS3, RS4, RS5]; exact ⟨no (fun e => by rw [e] at d4; simp at d4), hF2⟩
  | true =>
  simp only [RS0, RS1, RS2, RS3, RS4, RS5, hw1.c4, hw2.c4, str_inj]
  cases d5 : decide (a.high = b.high) with
  | false => simp only [RS0, RS1, RS2, RS3, RS4, RS5]; exact ⟨no (fun e => by rw [e] at d5; simp at d5), hF2⟩
  | true =>
  have dl : decide ((a.items.length : Int) = (b.items.length : Int)) = decide (a.items.length = b.items.length) := by rw [decide_eq_decide]; omega
  simp only [RS0, RS1, RS2, RS3, RS4, RS5, hw1.c5, hw2.c5, hca.lenV, hcb.lenV, bne_dec, dl]
  cases d6 : decide (a.items.length = b.items.length) with
  | false => simp only [RS0, RS1, RS2, RS3, RS4, RS5]; exact ⟨no (fun e => by rw [e] at d6; simp at d6), hF2⟩
  | true =>
  rw [decide_eq_true_eq] at d1 d2 d3 d4 d5 d6
  simp only [RS0, RS1, RS2, RS3, RS4, RS5]
  refine ⟨fun vs w2' => ∃ i : Nat, vs = [iv i] ∧ i ≤ a.items.length ∧ a.items.take i = b.items.take i ∧ PB w2' xa a va ∧ PB w2' xb b vb ∧ Fm (fun _ => False) w w2', fun vs _ => (a.items.length - nth vs 0).toNat, ⟨0, rfl, by omega, rfl, hw1, hw2, hF2⟩, ?_⟩
  rintro _ w3 ivv ⟨i, hvs, hi, heq, hA, hB, hF3⟩
  cases hvs
  by_cases hlt2 : i < a.items.length
  · have e1 : decide ((i : Int) < (a.items.length : Int)) = true := by rw [decide_eq_true_eq]; omega
    have e2 : IntKind.i64.wrap ((i : Int) + 1) = ((i + 1 : Nat) : Int) := by rw [wrap_id] <;> omega
    have hx : a.items[i]? = some a.items[i] := List.getElem?_eq_getElem hlt2
    have hy : b.items[i]? = some b.items[i] := List.getElem?_eq_getElem (by omega)
    generalize a.items[i] = x at hx
    generalize b.items[i] = y at hy
    have hf3 := Fm.drew (fun _ => False) w3
    obtain ⟨ad, hix, _, hc⟩ := hca.at1 (i := i) (x := stv x) (by rw [List.getElem?_map, hx]; rfl) .i64
    obtain ⟨ad', hix', _, hc'⟩ := hcb.at1 (i := i) (x := stv y) (by rw [List.getElem?_map, hy]; rfl) .i64
    have hc2 := hF3.cell' hc (fun e => e)
    have hc2' := hF3.cell' hc' (fun e => e)
    simp only [RS0, RS1, RS2, RS3, RS4, RS5, hA.c5, hca.lenV, e1, hB.c5, true_and, hix, hc2, hix', hc2', str_inj]
    cases hd : decide (x = y) with
    | true =>
      have hxy : x = y := by simpa using hd
      simp only [RS0, RS1, RS2, RS3, RS4, RS5, e2]
      exact ⟨⟨i + 1, rfl, by omega, by rw [List.take_add_one, List.take_add_one, heq, hx, hy, hxy], hA.keep hf3 (fun e => e), hB.keep hf3 (fun e => e), Fmf hF3 hf3⟩, by simp only [nth_0]; omega⟩
    | false =>
      simp only [RS0, RS1, RS2, RS3, RS4, RS5]
      refine ⟨no (fun e => ?_), Fmf hF3 hf3⟩
      rw [decide_eq_false_iff_not] at hd
      rw [e, hy] at hx
      cases hx
      exact hd rfl
  · have hie : i = a.items.length := by omega
    subst hie
    have e1 : decide (((a.items.length : Nat) : Int) < (a.items.length : Int)) = false := by simp
    rw [List.take_length, List.take_of_length_le (by omega)] at heq
    simp only [RS0, RS1, RS2, RS3, RS4, RS5, hA.c5, hca.lenV, e1]
    refine ⟨?_, hF3⟩
    have : a = b := by
      obtain ⟨a1, a2, a3, a4, a5, a6⟩ := a
      obtain ⟨b1, b2, b3, b4, b5, b6⟩ := b
      simp only at d1 d2 d3 d4 d5 heq
      rw [d1, d2, d3, d4, d5, heq]
    rw [show decide (a = b) = true by simpa using this]

end Go.Proofs.YthbngnlmgplijaaGreatDoor
