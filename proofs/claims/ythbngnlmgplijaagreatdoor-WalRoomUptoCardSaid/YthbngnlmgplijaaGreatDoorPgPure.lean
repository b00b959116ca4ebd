/- Sums, numbers and pages as bytes, plainly. -/
import Derived.Test.YthbngnlmgplijaaGreatDoorAlBytes
import Derived.Test.YthbngnlmgplijaaGreatDoorAlNum
namespace Go.Al
set_option linter.unusedVariables false
set_option linter.unusedSimpArgs false
set_option linter.unusedSectionVars false

/-! ### The sum -/
def crcS (c : Nat) : Nat := (c / 2) ^^^ (if c % 2 = 1 then 3988292384 else 0)
def crcT : Nat → Nat → Nat
  | 0, c => c
  | k + 1, c => crcT k (crcS c)
def crcB (c : Nat) (b : UInt8) : Nat := crcT 8 (c ^^^ b.toNat)
def crcF (c : Nat) (l : Bs) : Nat := l.foldl crcB c
def crc (l : Bs) : Nat := crcF 4294967295 l ^^^ 4294967295
theorem crcS_lt {c : Nat} (h : c < 2 ^ 32) : crcS c < 2 ^ 32 := by
  unfold crcS
  refine Nat.xor_lt_two_pow (by omega) ?_
  split <;> omega
theorem crcT_lt : ∀ (k : Nat) {c : Nat}, c < 2 ^ 32 → crcT k c < 2 ^ 32
  | 0, _, h => h
  | k + 1, _, h => crcT_lt k (crcS_lt h)
theorem xor_byte {c : Nat} (h : c < 2 ^ 32) (b : UInt8) : c ^^^ b.toNat < 2 ^ 32 := Nat.xor_lt_two_pow h (by have := b.toNat_lt; omega)
theorem crcB_lt {c : Nat} (h : c < 2 ^ 32) (b : UInt8) : crcB c b < 2 ^ 32 := crcT_lt 8 (xor_byte h b)
theorem crcF_lt : ∀ (l : Bs) {c : Nat}, c < 2 ^ 32 → crcF c l < 2 ^ 32
  | [], _, h => h
  | b :: l, _, h => crcF_lt l (crcB_lt h b)
theorem crc_lt (l : Bs) : crc l < 2 ^ 32 := Nat.xor_lt_two_pow (crcF_lt l (by omega)) (by omega)
theorem crcS_xor (a b : Nat) : crcS (a ^^^ b) = crcS a ^^^ crcS b := by
  unfold crcS
  have h1 : (a ^^^ b) / 2 = a / 2 ^^^ b / 2 := by
    have := Nat.shiftRight_xor_distrib (a := a) (b := b) (i := 1)
    simpa [Nat.shiftRight_eq_div_pow] using this
  have h2 : (a ^^^ b) % 2 = (a % 2 ^^^ b % 2) := by
    have := Nat.xor_mod_two_pow (a := a) (b := b) (n := 1)
    simpa using this
  rw [h1, h2]
  have ha : a % 2 = 0 ∨ a % 2 = 1 := by omega
  have hb : b % 2 = 0 ∨ b % 2 = 1 := by omega
  rcases ha with ha | ha <;> rcases hb with hb | hb <;> rw [ha, hb] <;> simp
  · rw [Nat.xor_assoc]
  · rw [Nat.xor_assoc, Nat.xor_assoc, Nat.xor_comm (b / 2)]
  · rw [Nat.xor_assoc, Nat.xor_comm 3988292384, Nat.xor_assoc, Nat.xor_self, Nat.xor_zero]
theorem crcT_xor : ∀ (k a b : Nat), crcT k (a ^^^ b) = crcT k a ^^^ crcT k b
  | 0, _, _ => rfl
  | k + 1, a, b => by rw [crcT, crcS_xor, crcT_xor k]; rfl
theorem crcT_shift : ∀ (k x : Nat), crcT k (x * 2 ^ k) = x
  | 0, x => by simp [crcT]
  | k + 1, x => by
    rw [crcT]
    have : crcS (x * 2 ^ (k + 1)) = x * 2 ^ k := by
      unfold crcS
      rw [Nat.pow_succ, ← Nat.mul_assoc, Nat.mul_div_cancel _ (by omega), if_neg (by omega), Nat.xor_zero]
    rw [this]; exact crcT_shift k x
theorem split_byte (c : Nat) : c = (c / 256 * 256) ^^^ (c % 256) := by
  have h := Nat.two_pow_add_eq_or_of_lt (i := 8) (b := c % 256) (by omega) (c / 256)
  apply Nat.eq_of_testBit_eq
  intro i
  rw [Nat.testBit_xor, show c / 256 * 256 = (c / 256) * 2 ^ 8 from rfl, Nat.testBit_mul_two_pow, show c % 256 = c % 2 ^ 8 from rfl, Nat.testBit_mod_two_pow, show c / 256 = c / 2 ^ 8 from rfl, Nat.testBit_div_two_pow]
  by_cases hi : i < 8
  · simp [hi, show ¬ 8 ≤ i by omega]
  · simp [hi, show 8 ≤ i by omega]
/-- A byte at once. -/
theorem crcB_table (c : Nat) (b : UInt8) : crcB c b = c / 256 ^^^ crcT 8 (c % 256 ^^^ b.toNat) := by
  unfold crcB
  have h : c ^^^ b.toNat = (c / 256 * 256) ^^^ (c % 256 ^^^ b.toNat) := by rw [← Nat.xor_assoc, ← split_byte]
  rw [h, crcT_xor, show c / 256 * 256 = c / 256 * 2 ^ 8 from rfl, crcT_shift]
theorem xor_zero_eq {a b : Nat} (h : a ^^^ b = 0) : a = b := by
  have := congrArg (· ^^^ b) h
  simpa [Nat.xor_assoc] using this
theorem crcS_zero {d : Nat} (h : d < 2 ^ 32) (hz : crcS d = 0) : d = 0 := by
  unfold crcS at hz
  split at hz
  · have := xor_zero_eq hz; omega
  · rw [Nat.xor_zero] at hz; omega
theorem crcT_zero : ∀ (k : Nat) {d : Nat}, d < 2 ^ 32 → crcT k d = 0 → d = 0
  | 0, _, _, h => h
  | k + 1, _, h, hz => crcS_zero h (crcT_zero k (crcS_lt h) hz)
theorem crcT_inj {k a b : Nat} (ha : a < 2 ^ 32) (hb : b < 2 ^ 32) (h : crcT k a = crcT k b) : a = b := by
  have : crcT k (a ^^^ b) = 0 := by rw [crcT_xor, h, Nat.xor_self]
  exact xor_zero_eq (crcT_zero k (Nat.xor_lt_two_pow ha hb) this)
theorem xor_cancel {a b c : Nat} (h : a ^^^ c = b ^^^ c) : a = b := by
  have := congrArg (· ^^^ c) h
  simpa [Nat.xor_assoc] using this
theorem crcF_inj : ∀ (l : Bs) {a b : Nat}, a < 2 ^ 32 → b < 2 ^ 32 → crcF a l = crcF b l → a = b
  | [], _, _, _, _, h => h
  | x :: l, a, b, ha, hb, h => xor_cancel (crcT_inj (xor_byte ha x) (xor_byte hb x) (crcF_inj l (crcB_lt ha x) (crcB_lt hb x) h))
/-- Bytes of which one is another one have another sum. -/
theorem crc_torn (l t : Bs) {a b : UInt8} (h : crc (l ++ a :: t) = crc (l ++ b :: t)) : a = b := by
  have h1 := xor_cancel h
  unfold crcF at h1
  rw [List.foldl_append, List.foldl_append] at h1
  have hl : crcF 4294967295 l < 2 ^ 32 := crcF_lt l (by omega)
  have h2 := crcF_inj t (crcB_lt hl a) (crcB_lt hl b) h1
  have h3 := crcT_inj (xor_byte hl a) (xor_byte hl b) h2
  rw [Nat.xor_comm, Nat.xor_comm (crcF 4294967295 l)] at h3
  exact UInt8.toNat_inj.1 (xor_cancel h3)

/-! ### Numbers as so many bytes -/
def beN : Nat → Nat → Bs
  | 0, _ => []
  | k + 1, n => beN k (n / 256) ++ [UInt8.ofNat (n % 256)]
def ofB (l : Bs) : Nat := l.foldl (fun n b => n * 256 + b.toNat) 0
theorem beN_len : ∀ (k n : Nat), (beN k n).length = k
  | 0, _ => rfl
  | k + 1, n => by rw [beN, List.length_append, beN_len]; rfl
theorem ofB_snoc (l : Bs) (b : UInt8) : ofB (l ++ [b]) = ofB l * 256 + b.toNat := by unfold ofB; rw [List.foldl_append]; rfl
theorem ofN_toNat {n : Nat} (h : n < 256) : (UInt8.ofNat n).toNat = n := by simp [Nat.mod_eq_of_lt h]
theorem ofB_beN : ∀ (k n : Nat), ofB (beN k n) = n % 256 ^ k
  | 0, n => by simp [beN, ofB, Nat.mod_one]
  | k + 1, n => by
    rw [beN, ofB_snoc, ofB_beN, ofN_toNat (by omega), Nat.pow_succ]
    rw [Nat.mul_comm (256 ^ k) 256, Nat.mod_mul]
    omega
theorem snoc_of : ∀ (k : Nat) (l : Bs), l.length = k + 1 → ∃ m b, l = m ++ [b] ∧ m.length = k := by
  intro k l h
  have hne : l ≠ [] := by rintro rfl; simp at h
  exact ⟨l.dropLast, l.getLast hne, (List.dropLast_concat_getLast hne).symm, by rw [List.length_dropLast, h]; rfl⟩
theorem beN_ofB : ∀ (k : Nat) (l : Bs), l.length = k → beN k (ofB l) = l
  | 0, l, h => by rw [List.eq_nil_of_length_eq_zero h]; rfl
  | k + 1, l, h => by
    obtain ⟨m, b, rfl, hm⟩ := snoc_of k l h
    have hb := b.toNat_lt
    rw [ofB_snoc, beN, show (ofB m * 256 + b.toNat) / 256 = ofB m by omega, show (ofB m * 256 + b.toNat) % 256 = b.toNat by omega, beN_ofB k m hm]
    congr 2
    exact UInt8.toNat_inj.1 (ofN_toNat (by omega))
theorem ofB_lt : ∀ (k : Nat) (l : Bs), l.length = k → ofB l < 256 ^ k := by
  intro k l h
  have := ofB_beN k (ofB l)
  rw [beN_ofB k l h] at this
  rw [this]
  exact Nat.mod_lt _ (Nat.pow_pos (by omega))
theorem beN_mod (k n : Nat) : beN k (n % 256 ^ k) = beN k n := by
  have := beN_ofB k (beN k n) (beN_len k n)
  rw [ofB_beN] at this; exact this
theorem beN_inj {k a b : Nat} (h : beN k a = beN k b) : a % 256 ^ k = b % 256 ^ k := by rw [← ofB_beN, ← ofB_beN, h]
theorem beN1 (b : UInt8) : beN 1 b.toNat = [b] := by
  have := beN_ofB 1 [b] rfl
  have h : ofB [b] = b.toNat := by simp [ofB]
  rw [h] at this; exact this

/-! ### Pages -/
structure Pg where
  lsn : Int
  kind : Int
  level : Int
  right : Int
  high : Bs
  items : List Bs
deriving DecidableEq
def pg0 : Pg := ⟨0, 0, 0, 0, [], []⟩
def zeros (n : Nat) : Bs := List.replicate n 0
theorem zeros_len (n : Nat) : (zeros n).length = n := List.length_replicate
def itB (it : Bs) : Bs := beN 2 it.length ++ it
theorem itB_len (it : Bs) : (itB it).length = 2 + it.length := by rw [itB, List.length_append, beN_len]
def pSize (p : Pg) : Nat := p.items.foldl (fun n it => n + (2 + it.length)) (20 + p.high.length)
def pHead (p : Pg) : Bs := beN 8 p.lsn.toNat ++ (beN 1 p.kind.toNat ++ (beN 1 p.level.toNat ++ (beN 4 p.right.toNat ++ (beN 1 p.items.length ++ (beN 1 p.high.length ++ p.high)))))
def pBody (p : Pg) : Bs := pHead p ++ p.items.flatMap itB
def pText (p : Pg) : Bs := pBody p ++ zeros (508 - (pBody p).length)
def pErr (p : Pg) : Int :=
  bif decide (p.lsn < 0 ∨ p.level < 0 ∨ p.right < 0 ∨ p.kind < 1 ∨ 3 < p.kind ∨ 255 < p.level ∨ 4294967295 < p.right) then 4
  else bif decide (255 < p.high.length ∨ 255 < p.items.length ∨ 512 < pSize p) then 3 else 0
def pEnc (p : Pg) : Bs × Int := bif decide (pErr p = 0) then (beN 4 (crc (pText p)) ++ pText p, 0) else ([], pErr p)
theorem foldl_len (l : List Bs) (n : Nat) : l.foldl (fun n it => n + (2 + it.length)) n = n + (l.flatMap itB).length := by
  induction l generalizing n with
  | nil => simp
  | cons x l ih => rw [List.foldl_cons, ih, List.flatMap_cons, List.length_append, itB_len]; omega
theorem pHead_len (p : Pg) : (pHead p).length = 16 + p.high.length := by
  simp only [pHead, List.length_append, beN_len]; omega
theorem pBody_len (p : Pg) : (pBody p).length + 4 = pSize p := by
  rw [pSize, foldl_len, pBody, List.length_append, pHead_len]; omega
theorem pText_len {p : Pg} (h : pSize p ≤ 512) : (pText p).length = 508 := by
  have := pBody_len p
  rw [pText, List.length_append, zeros_len]; omega
theorem pErr_ok {p : Pg} (h : pErr p = 0) : (0 ≤ p.lsn ∧ 0 ≤ p.level ∧ 0 ≤ p.right ∧ 1 ≤ p.kind ∧ p.kind ≤ 3 ∧ p.level ≤ 255 ∧ p.right ≤ 4294967295) ∧ p.high.length ≤ 255 ∧ p.items.length ≤ 255 ∧ pSize p ≤ 512 := by
  unfold pErr at h
  cases h1 : decide (p.lsn < 0 ∨ p.level < 0 ∨ p.right < 0 ∨ p.kind < 1 ∨ 3 < p.kind ∨ 255 < p.level ∨ 4294967295 < p.right) with
  | true => rw [h1] at h; simp at h
  | false =>
    cases h2 : decide (255 < p.high.length ∨ 255 < p.items.length ∨ 512 < pSize p) with
    | true => rw [h1, h2] at h; simp at h
    | false =>
      rw [decide_eq_false_iff_not] at h1 h2
      omega
theorem pErr_of {p : Pg} (h : (0 ≤ p.lsn ∧ 0 ≤ p.level ∧ 0 ≤ p.right ∧ 1 ≤ p.kind ∧ p.kind ≤ 3 ∧ p.level ≤ 255 ∧ p.right ≤ 4294967295) ∧ p.high.length ≤ 255 ∧ p.items.length ≤ 255 ∧ pSize p ≤ 512) : pErr p = 0 := by
  unfold pErr
  rw [show decide (p.lsn < 0 ∨ p.level < 0 ∨ p.right < 0 ∨ p.kind < 1 ∨ 3 < p.kind ∨ 255 < p.level ∨ 4294967295 < p.right) = false by rw [decide_eq_false_iff_not]; omega, show decide (255 < p.high.length ∨ 255 < p.items.length ∨ 512 < pSize p) = false by rw [decide_eq_false_iff_not]; omega]
  rfl
theorem pEnc_ok {p : Pg} (h : pErr p = 0) : pEnc p = (beN 4 (crc (pText p)) ++ pText p, 0) := by unfold pEnc; rw [h]; rfl
theorem pEnc_bad {p : Pg} (h : pErr p ≠ 0) : pEnc p = ([], pErr p) := by
  unfold pEnc
  rw [show decide (pErr p = 0) = false by simpa using h]; rfl
theorem pEnc_len {p : Pg} (h : pErr p = 0) : (pEnc p).1.length = 512 := by
  rw [pEnc_ok h, List.length_append, beN_len, pText_len (pErr_ok h).2.2.2]
theorem pEnc_err (p : Pg) : (pEnc p).2 = pErr p := by
  by_cases h : pErr p = 0
  · rw [pEnc_ok h, h]
  · rw [pEnc_bad h]

/-! ### Reading -/
def pItems : Nat → Bs → Option (List Bs × Bs)
  | 0, s => some ([], s)
  | n + 1, s => bif decide (s.length < 2) then none
    else bif decide ((s.drop 2).length < ofB (s.take 2)) then none
    else (pItems n ((s.drop 2).drop (ofB (s.take 2)))).map fun x => ((s.drop 2).take (ofB (s.take 2)) :: x.1, x.2)
theorem take_beN (k n : Nat) (t : Bs) : (beN k n ++ t).take k = beN k n := by rw [List.take_append_of_le_length (by rw [beN_len]; exact Nat.le_refl _), List.take_of_length_le (by rw [beN_len]; exact Nat.le_refl _)]
theorem drop_beN (k n : Nat) (t : Bs) : (beN k n ++ t).drop k = t := List.drop_left' (beN_len k n)
theorem pItems_of : ∀ (l : List Bs) (t : Bs), (∀ it ∈ l, it.length < 65536) → pItems l.length (l.flatMap itB ++ t) = some (l, t)
  | [], t, _ => rfl
  | x :: l, t, h => by
    have hx := h x (by simp)
    have ih := pItems_of l t (fun it hi => h it (List.mem_cons_of_mem _ hi))
    rw [List.length_cons, pItems, List.flatMap_cons, itB]
    have e : (beN 2 x.length ++ x ++ l.flatMap itB ++ t) = beN 2 x.length ++ (x ++ (l.flatMap itB ++ t)) := by simp only [List.append_assoc]
    rw [e, take_beN, drop_beN, ofB_beN, Nat.mod_eq_of_lt (by omega)]
    rw [show decide ((beN 2 x.length ++ (x ++ (l.flatMap itB ++ t))).length < 2) = false by rw [decide_eq_false_iff_not, List.length_append, beN_len]; omega, cond_false]
    rw [show decide ((x ++ (l.flatMap itB ++ t)).length < x.length) = false by rw [decide_eq_false_iff_not, List.length_append]; omega, cond_false]
    rw [List.drop_left, List.take_left, ih]; rfl
theorem pItems_is : ∀ (n : Nat) (s : Bs) (l : List Bs) (t : Bs), pItems n s = some (l, t) → l.length = n ∧ s = l.flatMap itB ++ t ∧ ∀ it ∈ l, it.length < 65536
  | 0, s, l, t, h => by
    rw [pItems] at h; cases h
    exact ⟨rfl, rfl, by simp⟩
  | n + 1, s, l, t, h => by
    rw [pItems] at h
    cases h1 : decide (s.length < 2) with
    | true => rw [h1, cond_true] at h; cases h
    | false =>
    cases h2 : decide ((s.drop 2).length < ofB (s.take 2)) with
    | true => rw [h1, h2, cond_false, cond_true] at h; cases h
    | false =>
    rw [h1, h2, cond_false, cond_false] at h
    cases h3 : pItems n ((s.drop 2).drop (ofB (s.take 2))) with
    | none => rw [h3] at h; cases h
    | some q =>
      obtain ⟨l', t'⟩ := q
      rw [h3] at h
      cases h
      obtain ⟨g1, g2, g3⟩ := pItems_is n _ _ _ h3
      rw [decide_eq_false_iff_not] at h1 h2
      have hlt : ofB (s.take 2) < 256 ^ 2 := ofB_lt 2 _ (by rw [List.length_take]; omega)
      have hl : ((s.drop 2).take (ofB (s.take 2))).length = ofB (s.take 2) := by rw [List.length_take]; omega
      refine ⟨by simp [g1], ?_, ?_⟩
      · rw [List.flatMap_cons, itB, hl, beN_ofB 2 _ (by rw [List.length_take]; omega)]
        rw [List.append_assoc, List.append_assoc, ← g2, List.take_append_drop, List.take_append_drop]
      · intro it hi
        rcases List.mem_cons.1 hi with rfl | hi
        · rw [hl]; exact hlt
        · exact g3 it hi

def dLsn (d : Bs) : Nat := ofB ((d.drop 4).take 8)
def dKind (d : Bs) : Nat := (d.getD 12 0).toNat
def dLevel (d : Bs) : Nat := (d.getD 13 0).toNat
def dRight (d : Bs) : Nat := ofB ((d.drop 14).take 4)
def dMany (d : Bs) : Nat := (d.getD 18 0).toNat
def dHl (d : Bs) : Nat := (d.getD 19 0).toNat
def dHigh (d : Bs) : Bs := (d.drop 20).take (dHl d)
def dRest (d : Bs) : Bs := (d.drop 20).drop (dHl d)
def pDec (d : Bs) : Pg × Int :=
  bif decide (d.length ≠ 512) then (pg0, 31)
  else bif decide (beN 4 (crc (d.drop 4)) ≠ d.take 4) then (pg0, 30)
  else match pItems (dMany d) (dRest d) with
    | none => (pg0, 31)
    | some (l, t) => bif decide (t ≠ zeros t.length ∨ 127 < (d.getD 4 0).toNat ∨ dKind d < 1 ∨ 3 < dKind d) then (pg0, 31)
      else (⟨(dLsn d % 2 ^ 63 : Nat), dKind d, dLevel d, dRight d, dHigh d, l⟩, 0)

/-- 512 bytes, taken apart. -/
def parts (s l8 : Bs) (k v : UInt8) (r : Bs) (n h : UInt8) (tail : Bs) : Bs := s ++ (l8 ++ (k :: v :: (r ++ (n :: h :: tail))))
theorem parts_of {d : Bs} (h : d.length = 512) : ∃ s l8 k v r n hh tail, d = parts s l8 k v r n hh tail ∧ s.length = 4 ∧ l8.length = 8 ∧ r.length = 4 ∧ tail.length = 492 := by
  match d, h with
  | s0 :: s1 :: s2 :: s3 :: a0 :: a1 :: a2 :: a3 :: a4 :: a5 :: a6 :: a7 :: k :: v :: r0 :: r1 :: r2 :: r3 :: n :: hh :: tail, h =>
    exact ⟨[s0, s1, s2, s3], [a0, a1, a2, a3, a4, a5, a6, a7], k, v, [r0, r1, r2, r3], n, hh, tail, rfl, rfl, rfl, rfl, by simp only [List.length_cons] at h; omega⟩
theorem parts_is {s l8 r tail : Bs} {k v n h : UInt8} (hs : s.length = 4) (h8 : l8.length = 8) (hr : r.length = 4) :
    (parts s l8 k v r n h tail).take 4 = s ∧ (parts s l8 k v r n h tail).drop 4 = l8 ++ (k :: v :: (r ++ (n :: h :: tail))) ∧ dLsn (parts s l8 k v r n h tail) = ofB l8 ∧ dKind (parts s l8 k v r n h tail) = k.toNat ∧ dLevel (parts s l8 k v r n h tail) = v.toNat ∧
    dRight (parts s l8 k v r n h tail) = ofB r ∧ dMany (parts s l8 k v r n h tail) = n.toNat ∧ dHl (parts s l8 k v r n h tail) = h.toNat ∧ (parts s l8 k v r n h tail).drop 20 = tail ∧ (parts s l8 k v r n h tail).getD 4 0 = l8.getD 0 0 := by
  match s, hs, l8, h8, r, hr with
  | [s0, s1, s2, s3], _, [a0, a1, a2, a3, a4, a5, a6, a7], _, [r0, r1, r2, r3], _ => exact ⟨rfl, rfl, rfl, rfl, rfl, rfl, rfl, rfl, rfl, rfl⟩
theorem ofB_top {l8 : Bs} (h8 : l8.length = 8) : 127 < (l8.getD 0 0).toNat ↔ 9223372036854775808 ≤ ofB l8 := by
  match l8, h8 with
  | [a0, a1, a2, a3, a4, a5, a6, a7], _ =>
    have h0 := a0.toNat_lt
    have h1 := a1.toNat_lt
    have h2 := a2.toNat_lt
    have h3 := a3.toNat_lt
    have h4 := a4.toNat_lt
    have h5 := a5.toNat_lt
    have h6 := a6.toNat_lt
    have h7 := a7.toNat_lt
    show 127 < a0.toNat ↔ _
    simp only [ofB, List.foldl_cons, List.foldl_nil]
    omega
theorem pText_parts (p : Pg) (s : Bs) : s ++ pText p = parts s (beN 8 p.lsn.toNat) (UInt8.ofNat (p.kind.toNat % 256)) (UInt8.ofNat (p.level.toNat % 256)) (beN 4 p.right.toNat) (UInt8.ofNat (p.items.length % 256)) (UInt8.ofNat (p.high.length % 256)) (p.high ++ (p.items.flatMap itB ++ zeros (508 - (pBody p).length))) := by
  rw [pText, pBody, pHead, parts]
  simp only [List.append_assoc]
  rfl
theorem item_short {p : Pg} (h : pSize p ≤ 512) : ∀ it ∈ p.items, it.length < 65536 := by
  intro it hi
  rw [pSize, foldl_len] at h
  have : it.length ≤ (p.items.flatMap itB).length := by
    obtain ⟨l1, l2, e⟩ := List.append_of_mem hi
    rw [e, List.flatMap_append, List.flatMap_cons, List.length_append, List.length_append, itB_len]; omega
  omega
/-- What is written is read as it was. -/
theorem dec_enc {p : Pg} (h : pErr p = 0) (hl : p.lsn ≤ 9223372036854775807) : pDec (pEnc p).1 = (p, 0) := by
  obtain ⟨⟨b1, b2, b3, b4, b5, b6, b7⟩, b8, b9, b10⟩ := pErr_ok h
  have hlen := pEnc_len h
  rw [pEnc_ok h] at hlen ⊢
  simp only at hlen ⊢
  obtain ⟨q1, q2, q3, q4, q5, q6, q7, q8, q9, q10⟩ := parts_is (s := beN 4 (crc (pText p))) (l8 := beN 8 p.lsn.toNat) (k := UInt8.ofNat (p.kind.toNat % 256)) (v := UInt8.ofNat (p.level.toNat % 256)) (r := beN 4 p.right.toNat) (n := UInt8.ofNat (p.items.length % 256)) (h := UInt8.ofNat (p.high.length % 256)) (tail := p.high ++ (p.items.flatMap itB ++ zeros (508 - (pBody p).length))) (beN_len _ _) (beN_len _ _) (beN_len _ _)
  have hp := pText_parts p (beN 4 (crc (pText p)))
  have hd4 : (beN 4 (crc (pText p)) ++ pText p).drop 4 = pText p := drop_beN _ _ _
  generalize hD : beN 4 (crc (pText p)) ++ pText p = D at hlen hd4 hp
  rw [← hp] at q1 q2 q3 q4 q5 q6 q7 q8 q9 q10
  rw [ofN_toNat (by omega)] at q4 q5 q7 q8
  rw [ofB_beN] at q3 q6
  have hmany : dMany D = p.items.length := by rw [q7]; omega
  have hhl : dHl D = p.high.length := by rw [q8]; omega
  have hhigh : dHigh D = p.high := by rw [dHigh, q9, hhl, List.take_left]
  have hrest : dRest D = p.items.flatMap itB ++ zeros (508 - (pBody p).length) := by rw [dRest, q9, hhl, List.drop_left]
  have htop : ¬ 127 < (D.getD 4 0).toNat := by
    rw [q10, ofB_top (beN_len _ _), ofB_beN]; omega
  unfold pDec
  rw [show decide (D.length ≠ 512) = false by simpa using hlen, cond_false]
  rw [show decide (beN 4 (crc (D.drop 4)) ≠ D.take 4) = false by rw [hd4, q1]; simp, cond_false]
  rw [hmany, hrest, pItems_of _ _ (item_short b10)]
  simp only
  have hz : ¬ zeros (508 - (pBody p).length) ≠ zeros (zeros (508 - (pBody p).length)).length := by rw [zeros_len]; simp
  rw [show decide (zeros (508 - (pBody p).length) ≠ zeros (zeros (508 - (pBody p).length)).length ∨ 127 < (D.getD 4 0).toNat ∨ dKind D < 1 ∨ 3 < dKind D) = false by
    rw [decide_eq_false_iff_not]
    rintro (h | h | h | h)
    · exact hz h
    · exact htop h
    · omega
    · omega, cond_false]
  rw [q3, q4, q5, q6, hhigh]
  obtain ⟨lsn, kind, level, right, high, items⟩ := p
  simp only at b1 b2 b3 b4 b5 b6 b7 hl ⊢
  congr 2 <;> omega
/-- What is read is written as it was. -/
theorem enc_dec {d : Bs} (h : (pDec d).2 = 0) : pErr (pDec d).1 = 0 ∧ (pEnc (pDec d).1).1 = d ∧ (pDec d).1.lsn ≤ 9223372036854775807 := by
  unfold pDec at h ⊢
  cases h1 : decide (d.length ≠ 512) with
  | true => rw [h1, cond_true] at h; simp at h
  | false =>
  cases h2 : decide (beN 4 (crc (d.drop 4)) ≠ d.take 4) with
  | true => rw [h1, h2, cond_false, cond_true] at h; simp at h
  | false =>
  rw [h1, h2, cond_false, cond_false] at h
  simp only [cond_false]
  cases h3 : pItems (dMany d) (dRest d) with
  | none => rw [h3] at h; simp at h
  | some q =>
  obtain ⟨l, t⟩ := q
  rw [h3] at h
  simp only at h ⊢
  cases h4 : decide (t ≠ zeros t.length ∨ 127 < (d.getD 4 0).toNat ∨ dKind d < 1 ∨ 3 < dKind d) with
  | true => rw [h4, cond_true] at h; simp at h
  | false =>
  simp only [cond_false]
  have hlen : d.length = 512 := by simpa using h1
  have hsum : beN 4 (crc (d.drop 4)) = d.take 4 := by simpa using h2
  rw [decide_eq_false_iff_not] at h4
  have n1 : t = zeros t.length := Classical.byContradiction fun hne => h4 (.inl hne)
  have n2 : ¬ 127 < (d.getD 4 0).toNat := fun e => h4 (.inr (.inl e))
  have n3 : ¬ dKind d < 1 := fun e => h4 (.inr (.inr (.inl e)))
  have n4 : ¬ 3 < dKind d := fun e => h4 (.inr (.inr (.inr e)))
  obtain ⟨g1, g2, g3⟩ := pItems_is _ _ _ _ h3
  obtain ⟨s, l8, k, v, r, n, hh, tail, hd, es, e8, er, et⟩ := parts_of hlen
  obtain ⟨q1, q2, q3, q4, q5, q6, q7, q8, q9, q10⟩ := parts_is (k := k) (v := v) (n := n) (h := hh) (tail := tail) es e8 er
  rw [← hd] at q1 q2 q3 q4 q5 q6 q7 q8 q9 q10
  have hl8 : ofB l8 < 9223372036854775808 := by
    rw [q10, ofB_top e8] at n2; omega
  have hk := k.toNat_lt
  have hv := v.toNat_lt
  have hn := n.toNat_lt
  have hhh := hh.toNat_lt
  have hr := ofB_lt 4 r er
  have hhigh : (dHigh d).length = hh.toNat := by rw [dHigh, q9, q8, List.length_take, et]; omega
  have htail : tail = dHigh d ++ (l.flatMap itB ++ t) := by rw [← g2, dHigh, dRest, q9, List.take_append_drop]
  generalize hP : (⟨(dLsn d % 2 ^ 63 : Nat), dKind d, dLevel d, dRight d, dHigh d, l⟩ : Pg) = P
  have hbody : d.drop 4 = pBody P ++ t := by
    rw [q2, ← hP, pBody, pHead]
    simp only [Int.toNat_natCast, q3, q4, q5, q6, hhigh, g1, q7]
    rw [Nat.mod_eq_of_lt (show ofB l8 < 2 ^ 63 by omega), beN_ofB 8 l8 e8, beN_ofB 4 r er, beN1, beN1, beN1, beN1, htail]
    simp only [List.append_assoc, List.cons_append, List.nil_append]
  have hbl : (pBody P).length + t.length = 508 := by
    have := congrArg List.length hbody
    rw [List.length_append, List.length_drop, hlen] at this; omega
  have htz : t = zeros (508 - (pBody P).length) := by
    rw [show 508 - (pBody P).length = t.length by omega]
    exact n1
  have hsz : pSize P ≤ 512 := by have := pBody_len P; omega
  have hok : pErr P = 0 := by
    refine pErr_of ⟨?_, ?_, ?_, hsz⟩
    · rw [← hP]
      simp only
      omega
    · rw [← hP]; simp only; omega
    · rw [← hP]; simp only; omega
  refine ⟨hok, ?_, ?_⟩
  · rw [pEnc_ok hok]
    have ht : pText P = d.drop 4 := by rw [pText, ← htz, hbody]
    simp only
    rw [ht, hsum, List.take_append_drop]
  · omega

end Go.Al
