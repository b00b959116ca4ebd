/- Laid for one claim by slim.py out of: AlBytes AlNum PgPure AlNum2 BitsPure AlLaw AlView AlStru AlView2 PgBits PgShelf PgPage PgEnc PgDec PgSame CpsQ. -/
import Derived.Test.YthbngnlmgplijaaGreatDoorOweA
namespace Go.Al
set_option linter.unusedVariables false
set_option linter.unusedSimpArgs false
set_option linter.unusedSectionVars false

abbrev Bs := List UInt8
def str (l : Bs) : ByteArray := ⟨l.toArray⟩
theorem str_size (l : Bs) : (str l).size = l.length := by simp [str, ByteArray.size]
theorem str_inj {a b : Bs} : str a = str b ↔ a = b := by
  constructor
  · intro h
    have h2 : (str a).data = (str b).data := by rw [h]
    simpa [str] using h2
  · rintro rfl; rfl
theorem str_append (a b : Bs) : str a ++ str b = str (a ++ b) := by
  apply ByteArray.ext
  simp [str, ByteArray.data_append]
theorem str_extract (l : Bs) (i j : Nat) : (str l).extract i j = str ((l.take j).drop i) := by
  apply ByteArray.ext
  apply Array.ext'
  rw [ByteArray.data_extract, Array.toList_extract]
  simp only [str, List.extract_eq_take_drop]
  rw [List.drop_take]
theorem str_data (s : ByteArray) : str s.data.toList = s := by
  apply ByteArray.ext
  simp [str]
theorem str_nil : ByteArray.mk #[] = str [] := rfl
abbrev stv (l : Bs) : Value := .string (str l)
theorem binV_sadd (d : TypeDesc) (a b : Bs) (h : a.length + b.length ≤ 9223372036854775807) : binV d .add (stv a) (stv b) = some (stv (a ++ b)) := by
  have : ¬ (((str a).size + (str b).size : Nat) : Int) > IntKind.i64.max := by
    rw [str_size, str_size]; show ¬ _ > (9223372036854775807 : Int); omega
  simp only [binV, binS, if_neg this, str_append]
theorem slS_hi {l : Bs} {i : Nat} (h : i ≤ l.length) (k : IntKind) : slS (stv l) none (some (.int k i)) = some (stv (l.take i)) := by
  have e1 : bnd (str l).size (str l).size (some (.int k i)) = some i := bnd_at (by rw [str_size]; exact h) k
  have e2 : bnd i 0 none = some 0 := rfl
  simp only [slS, e1, e2, Option.bind_some, Option.map_some, str_extract, List.drop_zero]
theorem slS_lo {l : Bs} {i : Nat} (h : i ≤ l.length) (k : IntKind) : slS (stv l) (some (.int k i)) none = some (stv (l.drop i)) := by
  have e1 : bnd (str l).size (str l).size none = some (str l).size := rfl
  have e2 : bnd (str l).size 0 (some (.int k i)) = some i := bnd_at (by rw [str_size]; exact h) k
  rw [str_size] at e1 e2
  simp only [slS, str_size, e1, e2, Option.bind_some, Option.map_some, str_extract, List.take_length]
theorem slS_lh {l : Bs} {i j : Nat} (hij : i ≤ j) (h : j ≤ l.length) (k k' : IntKind) : slS (stv l) (some (.int k i)) (some (.int k' j)) = some (stv ((l.drop i).take (j - i))) := by
  have e1 : bnd (str l).size (str l).size (some (.int k' j)) = some j := bnd_at (by rw [str_size]; exact h) k'
  have e2 : bnd j 0 (some (.int k i)) = some i := bnd_at hij k
  simp only [slS, e1, e2, Option.bind_some, Option.map_some, str_extract, List.drop_take]

def bc (l : Bs) : List Value := l.map fun b => Value.int .u8 b.toNat
theorem bc_len (l : Bs) : (bc l).length = l.length := by simp [bc]
theorem bc_append (a b : Bs) : bc (a ++ b) = bc a ++ bc b := by simp [bc]
theorem bc_take (l : Bs) (i : Nat) : (bc l).take i = bc (l.take i) := by simp [bc, List.map_take]
theorem bc_drop (l : Bs) (i : Nat) : (bc l).drop i = bc (l.drop i) := by simp [bc, List.map_drop]
theorem bc_one (l : Bs) : ∀ u ∈ bc l, u.oneCell' = true := by
  intro u hu; obtain ⟨b, _, rfl⟩ := List.mem_map.1 hu; rfl
theorem bc_get (l : Bs) (i : Nat) : (bc l)[i]? = (l[i]?).map fun b => Value.int .u8 b.toNat := by simp [bc]
/-- What the tables say of bytes and texts: t the slice type, e the element, s the text. -/
structure ByteT (P : Program) (t e s : TypeId) : Prop where
  sl : P.underlying t = some (.slice e)
  u8 : P.underlying e = some (.int .u8)
  st : P.underlying s = some .string
  info : ∃ i, P.info? e = some i ∧ i.zero = some (.int .u8 0) ∧ i.size = 1 ∧ i.bytes = 1
theorem byteT_of {P : Program} {t e s : TypeId} (h1 : P.underlying t = some (.slice e)) (h2 : P.underlying e = some (.int .u8)) (h3 : P.underlying s = some .string)
    (hi : (P.info? e).map (fun i => (i.zero.map (fun z => match z with | .int .u8 0 => true | _ => false), i.size, i.bytes)) = some (some true, 1, 1)) : ByteT P t e s := by
  refine ⟨h1, h2, h3, ?_⟩
  cases hp : P.info? e with
  | none => rw [hp] at hi; cases hi
  | some i =>
    rw [hp] at hi
    simp only [Option.map_some, Option.some.injEq, Prod.mk.injEq] at hi
    cases hz : i.zero with
    | none => rw [hz] at hi; simp at hi
    | some z =>
      rw [hz] at hi
      simp only [Option.map_some, Option.some.injEq] at hi
      refine ⟨i, rfl, ?_, hi.2.1, hi.2.2⟩
      have := hi.1
      split at this
      · exact hz
      · cases this
/-- Block g is a row of bytes. -/
def BRow (w : World) (g : Nat) (e : TypeId) (l : Bs) : Prop := w.heap[g]? = some (.cells (bc l).toArray e)
theorem BRow.keep {S : Nat → Prop} {w w' : World} {g : Nat} {e : TypeId} {l : Bs} (h : BRow w g e l) (hf : Fm S w w') (hs : ¬ S g) : BRow w' g e l := hf.heap h hs
theorem BRow.lt {w : World} {g : Nat} {e : TypeId} {l : Bs} (h : BRow w g e l) : g < w.heap.size := lt_of_heap h
theorem BRow.cell {w : World} {g : Nat} {e : TypeId} {l : Bs} (h : BRow w g e l) (i : Nat) : w.cell? ⟨g, i, none⟩ = (l[i]?).map fun b => Value.int .u8 b.toNat := by
  rw [cell_at h, List.getElem?_toArray, bc_get]

theorem BRow.make {P : Program} {t e s : TypeId} (B : ByteT P t e s) (w : World) (n : Nat) (h : n ≤ 281474976710656) :
    (Instr.makeSlice t (.int .i64 n) (.int .i64 n)).run P w = .ok (.slice (some ⟨w.heap.size, 0, none⟩) n n) (w.alloc (.cells (bc (List.replicate n 0)).toArray e)) := by
  obtain ⟨i, h1, h2, h3, h4⟩ := B.info
  have hr := run_make (P := P) w t e i _ B.sl h1 h2 .i64 .i64 n n (by omega) (Int.le_refl _) (by rw [h4]; omega) (by omega)
  rw [hr]
  congr 3
  simp only [Int.toNat_natCast]
  congr 1
  rw [h3, Nat.mul_one]
  apply Array.ext'
  apply List.ext_getElem?
  intro j
  simp only [madeCells, bc, List.map_replicate, Array.toList_map, Array.toList_range, List.getElem?_map, List.getElem?_replicate, List.getElem?_range]
  have hz : ∀ q, (Value.cells (.int .u8 0))[q % (Value.cells (.int .u8 0)).size]! = Value.int .u8 0 := by
    intro q
    have : (Value.cells (.int .u8 0)).size = 1 := rfl
    rw [this, Nat.mod_one]; rfl
  by_cases hj : j < n
  · rw [if_pos hj, List.getElem?_range hj]; simp [hz]
  · rw [if_neg hj, List.getElem?_eq_none (by simpa using hj)]; rfl

/-- 'string(b)'. -/
theorem BRow.conv {P : Program} {t e s : TypeId} (B : ByteT P t e s) {w : World} {g : Nat} {e' : TypeId} {l : Bs} (h : BRow w g e' l) {o n : Nat} (hn : o + n ≤ l.length) (c : Nat) :
    (convert t s (.slice (some ⟨g, o, none⟩) n c)).run P w = .ok (stv ((l.drop o).take n)) w := by
  have hr := run_convert_bytes_arg (P := P) w t e B.sl B.u8 g o n c (((l.drop o).take n).map fun b => (b.toNat : Int)) (by simp; omega) (fun i hi => by
    rw [h.cell]
    have : o + i < l.length := by omega
    simp [List.getD, List.getElem?_take, hi, List.getElem?_drop, this]) s B.st
  rw [hr]
  congr 2
  apply ByteArray.ext
  simp only [strOfNums, str, List.map_map]
  congr 1
  conv => rhs; rw [← List.map_id ((l.drop o).take n)]
  apply List.map_congr_left
  intro x _
  simp
theorem conv_nil {P : Program} {t e s : TypeId} (B : ByteT P t e s) (w : World) (n c : Nat) : (convert t s (.slice none n c)).run P w = .ok (stv []) w := by
  rw [run_convert_bytes_nil (P := P) w t e B.sl B.u8 n c s B.st]; rfl

/-- 'copy(b[o:], s)'. -/
theorem BRow.copyS {P : Program} {t e s : TypeId} (B : ByteT P t e s) {w : World} {g : Nat} {l : Bs} (h : BRow w g e l) {o n : Nat} {x : Bs} (hx : x.length ≤ n) (hn : o + x.length ≤ l.length) (c : Nat) (ty : TypeId) :
    ∃ w', (Builtin.copy_ #[t, s] ty #[.slice (some ⟨g, o, none⟩) n c, stv x]).run P w = .ok (goInt x.length) w' ∧ BRow w' g e (l.take o ++ x ++ l.drop (o + x.length)) ∧ w'.heap.size = w.heap.size ∧ Fm (· = g) w w' := by
  obtain ⟨i, h1, h2, h3, h4⟩ := B.info
  have hr := Lib.run_copy_row_string (P := P) w t s ty e g o n c (str x) _ e B.sl (by rw [h1]; simp [h3]) h (by rw [str_size]; exact hx) (by rw [str_size, List.size_toArray, bc_len]; exact hn)
  rw [str_size] at hr
  refine ⟨_, hr, ?_, ?_, ?_⟩
  · show (w.setRow g _).heap[g]? = _
    rw [setRow_heap w g _ _ e _ h]
    congr 2
    rw [show Lib.byteCells (str x).data.toList = bc x from rfl, bc_append, bc_append, bc_take, bc_drop]
  · simp
  · exact ⟨rfl, rfl, rfl, by simp, fun b hb hs => setRow_other w g b _ hs⟩

/-- 'b[i] = x'. -/
theorem BRow.put {w : World} {g : Nat} {e : TypeId} {l : Bs} (h : BRow w g e l) {i : Nat} (hi : i < l.length) {b : UInt8} {k : KV}
    (hk : ∀ w', BRow w' g e (l.set i b) → w'.heap.size = w.heap.size → Fm (· = g) w w' → k undef w') : St 1 w (.pointer (some ⟨g, i, none⟩)) (.int .u8 b.toNat) k := by
  refine St_blk h (by rw [List.size_toArray, bc_len]; exact hi) rfl fun w' h1 h2 h3 => hk w' ?_ h2 h3
  unfold BRow
  rw [h1]
  congr 2
  apply Array.ext'
  simp only [Array.toList_setIfInBounds, bc, List.map_set]
/-- The head of block g is bytes that may be written. -/
def BX (w : World) (g : Nat) (e : TypeId) (l : Bs) : Prop := ∃ cs fz, w.heap[g]? = some (.cells cs e fz) ∧ cs.toList.take l.length = bc l ∧ l.length ≤ cs.size ∧ (fz = (0, 0) ∨ l.length ≤ fz.1)
theorem BX.cell {w : World} {g : Nat} {e : TypeId} {l : Bs} (h : BX w g e l) {i : Nat} {b : UInt8} (hi : l[i]? = some b) : w.cell? ⟨g, i, none⟩ = some (.int .u8 b.toNat) := by
  obtain ⟨cs, fz, h1, h2, h3, h4⟩ := h
  have hlt := (List.getElem?_eq_some_iff.1 hi).1
  rw [cell_at h1]
  have : (cs.toList.take l.length)[i]? = some (.int .u8 b.toNat) := by rw [h2, bc_get, hi]; rfl
  rw [List.getElem?_take, if_pos hlt] at this
  simpa using this
theorem BX.conv {P : Program} {t e s : TypeId} (B : ByteT P t e s) {w : World} {g : Nat} {e' : TypeId} {l : Bs} (h : BX w g e' l) {o n : Nat} (hn : o + n ≤ l.length) (c : Nat) :
    (convert t s (.slice (some ⟨g, o, none⟩) n c)).run P w = .ok (stv ((l.drop o).take n)) w := by
  have hr := run_convert_bytes_arg (P := P) w t e B.sl B.u8 g o n c (((l.drop o).take n).map fun b => (b.toNat : Int)) (by simp; omega) (fun i hi => by
    have hlt : o + i < l.length := by omega
    rw [h.cell (List.getElem?_eq_getElem hlt)]
    simp [List.getD, List.getElem?_take, hi, List.getElem?_drop, hlt]) s B.st
  rw [hr]
  congr 2
  apply ByteArray.ext
  simp only [strOfNums, str, List.map_map]
  congr 1
  conv => rhs; rw [← List.map_id ((l.drop o).take n)]
  apply List.map_congr_left
  intro x _
  simp
/-- 'append(b, s...)'. -/
theorem append_text {P : Program} {t e s : TypeId} (B : ByteT P t e s) {w : World} {base : Nat} {v : Value} {n : Nat} {l : Bs} (h : w.ownsRow base e 1 v n (bc l)) (x : Bs) (ty : TypeId)
    (h63 : n + x.length ≤ 140737488355328) (hbase : base ≤ w.heap.size) :
    ∃ v' w', (Builtin.append_ #[t, s] ty #[v, stv x]).run P w = .ok v' w' ∧ w'.ownsRow base e 1 v' (n + x.length) (bc (l ++ x)) ∧ Fm (fun b => v.ownBlock = some b) w w' ∧ (v' = .slice none 0 0 ↔ v = .slice none 0 0 ∧ x.length = 0) := by
  obtain ⟨i, h1, h2, h3, h4⟩ := B.info
  obtain ⟨v', w', hr, ho, hg, hn⟩ := Lib.run_append_own_string (P := P) (w := w) base t s ty e i B.sl B.st h1 h2 h3 h4 v n _ h (str x) (by rw [str_size]; unfold maxLen; omega) (by rw [str_size]; omega) hbase
  rw [str_size] at ho hn
  refine ⟨v', w', hr, ?_, Fm.grown (S := fun b => v.ownBlock = some b) hg (fun k hk _ => hk), hn⟩
  rw [bc_append]; exact ho
/-- 'string(b)' of a row of the call's own. -/
theorem conv_own {P : Program} {t e s : TypeId} (B : ByteT P t e s) {w : World} {base : Nat} {v : Value} {n : Nat} {l : Bs} (h : w.ownsRow base e 1 v n (bc l)) : (convert t s v).run P w = .ok (stv l) w := by
  have hl := h.1
  rw [bc_len, Nat.mul_one] at hl
  rcases (own_cases h).2 with ⟨rfl, h0⟩ | ⟨g, cap, rfl, _, _, hc⟩
  · rw [h0] at hl
    rw [List.eq_nil_of_length_eq_zero hl]
    exact conv_nil B w 0 0
  · have hr := run_convert_bytes_arg (P := P) w t e B.sl B.u8 g 0 n cap (l.map fun b => (b.toNat : Int)) (by simpa using hl) (fun i hi => by
      rw [Nat.zero_add, hc i hi, bc_get]
      have : i < l.length := by omega
      simp [List.getD, this]) s B.st
    rw [hr]
    congr 2
    apply ByteArray.ext
    simp only [strOfNums, str, List.map_map]
    congr 1
    conv => rhs; rw [← List.map_id l]
    apply List.map_congr_left
    intro x _
    simp

/-- 'b[i:j]' of a row of one-cell elements. -/
theorem slV_lh {g o n c i j : Nat} (hij : i ≤ j) (hj : j ≤ c) (k k' : IntKind) : ∃ o', slV 1 (.slice (some ⟨g, o, none⟩) n c) (some (.int k i)) (some (.int k' j)) none = some (.slice (some ⟨g, o', none⟩) (j - i) (c - i)) ∧ (i < c → o' = o + i) ∧ o' ≤ o + i ∧ (j = i → True) := by
  have e1 : bnd c c none = some c := rfl
  have e2 : bnd c n (some (.int k' j)) = some j := bnd_at hj k'
  have e3 : bnd j 0 (some (.int k i)) = some i := bnd_at hij k
  refine ⟨if c = i then o else o + i, ?_, fun h => by rw [if_neg (by omega)], by split <;> omega, fun _ => trivial⟩
  simp only [slV, bndH, e1, e2, e3, Option.bind_some, Option.map_some]
  congr 2
  split
  · rfl
  · rw [add_none, Nat.mul_one]
theorem slV_lo1 {g o n c i : Nat} (hi : i ≤ n) (hn : n ≤ c) (k : IntKind) : ∃ o', slV 1 (.slice (some ⟨g, o, none⟩) n c) (some (.int k i)) none none = some (.slice (some ⟨g, o', none⟩) (n - i) (c - i)) ∧ (i < c → o' = o + i) ∧ o' ≤ o + i := by
  have e1 : bnd c c none = some c := rfl
  have e3 : bnd n 0 (some (.int k i)) = some i := bnd_at hi k
  refine ⟨if c = i then o else o + i, ?_, fun h => by rw [if_neg (by omega)], by split <;> omega⟩
  simp only [slV, bndH, e1, e3, Option.bind_some, Option.map_some]
  congr 2
  split
  · rfl
  · rw [add_none, Nat.mul_one]

/-- How long the text is that stands second. -/
def sz1 (vs : List Value) : Nat := match (vs[1]? : Option Value) with
  | some (.string s) => s.size
  | _ => 0
theorem sz1_eq (a : Value) (s : Bs) (l : List Value) : sz1 (a :: stv s :: l) = s.length := by simp [sz1, str_size]


end Go.Al

namespace Go.Al
set_option linter.unusedVariables false
set_option linter.unusedSimpArgs false

abbrev iv (n : Int) : Value := Value.int .i64 n
theorem i64_of_wf {n : Int} (h : (Lit.int .i64 n).wf = true) : -9223372036854775808 ≤ n ∧ n ≤ 9223372036854775807 := by
  have h1 : (decide (-9223372036854775808 ≤ n) && decide (n ≤ 9223372036854775807)) = true := h
  simpa using h1
theorem wrap_nat {n : Nat} (h : n ≤ 9223372036854775807) : IntKind.i64.wrap (n : Int) = n := wrap_id (by omega)
theorem quo_i64 (d : TypeDesc) {a b : Int} (hb : b ≠ 0) (h : -9223372036854775808 ≤ a.tdiv b ∧ a.tdiv b ≤ 9223372036854775807) : binV d .quo (iv a) (iv b) = some (iv (a.tdiv b)) := by
  rw [binV_quo, if_neg hb, wrap_id h]
theorem quo_nat (d : TypeDesc) {n m : Nat} (hm : 0 < m) (h : n ≤ 9223372036854775807) {b : Int} (hb : b = (m : Int)) : binV d .quo (iv n) (iv b) = some (iv ((n / m : Nat) : Int)) := by
  subst hb
  have e : (n : Int).tdiv (m : Int) = ((n / m : Nat) : Int) := by rw [Int.tdiv_eq_ediv_of_nonneg (by omega)]; rfl
  have hle : n / m ≤ n := Nat.div_le_self n m
  rw [quo_i64 d (by omega) (by rw [e]; generalize n / m = q at *; omega), e]
theorem rem_nat (d : TypeDesc) {n m : Nat} (hm : 0 < m) (h : n ≤ 9223372036854775807) {b : Int} (hb : b = (m : Int)) : binV d .rem (iv n) (iv b) = some (iv ((n % m : Nat) : Int)) := by
  subst hb
  have e : (n : Int).tmod (m : Int) = ((n % m : Nat) : Int) := by rw [Int.tmod_eq_emod_of_nonneg (by omega)]; rfl
  have hle : n % m ≤ n := Nat.mod_le n m
  rw [binV_rem, if_neg (by omega), e]
theorem quo_pos (d : TypeDesc) {a b : Int} (ha : 0 ≤ a) (hb : 0 < b) (h : a ≤ 9223372036854775807) : binV d .quo (iv a) (iv b) = some (iv (a / b)) := by
  obtain ⟨n, rfl⟩ := Int.eq_ofNat_of_zero_le ha
  obtain ⟨m, rfl⟩ := Int.eq_ofNat_of_zero_le (show 0 ≤ b by omega)
  rw [quo_nat d (n := n) (m := m) (by omega) (by omega) rfl]; rfl
theorem rem_pos (d : TypeDesc) {a b : Int} (ha : 0 ≤ a) (hb : 0 < b) (h : a ≤ 9223372036854775807) : binV d .rem (iv a) (iv b) = some (iv (a % b)) := by
  obtain ⟨n, rfl⟩ := Int.eq_ofNat_of_zero_le ha
  obtain ⟨m, rfl⟩ := Int.eq_ofNat_of_zero_le (show 0 ≤ b by omega)
  rw [rem_nat d (n := n) (m := m) (by omega) (by omega) rfl]; rfl
theorem xor_i64 {n : Int} (h : -9223372036854775808 ≤ n ∧ n ≤ 9223372036854775807) : unV .xor (iv n) = some (iv (-(n + 1))) := by
  have e1 : BitVec.ofInt 64 (-1) = BitVec.allOnes 64 := by decide
  have e2 : ((BitVec.ofInt 64 (-1)) ^^^ (BitVec.ofInt 64 n)).toNat = 18446744073709551615 - (n % 18446744073709551616).toNat := by
    rw [e1, BitVec.allOnes_xor, BitVec.toNat_not, BitVec.toNat_ofInt]; rfl
  have e3 : unV .xor (iv n) = some (iv (IntKind.i64.wrap (((BitVec.ofInt 64 (-1)) ^^^ (BitVec.ofInt 64 n)).toNat : Int))) := rfl
  rw [e3, e2]
  congr 2
  unfold IntKind.wrap
  simp [IntKind.bits, IntKind.signed]
  omega
def andI (k : IntKind) (a b : Int) : Int := k.wrap ((BitVec.ofInt k.bits a) &&& (BitVec.ofInt k.bits b)).toNat
theorem binV_and (d : TypeDesc) (k : IntKind) (a b : Int) : binV d .and (.int k a) (.int k b) = some (.int k (andI k a b)) := by simp [binV, isSh, binI, andI]
theorem ofInt_nat (w n : Nat) (h : n < 2 ^ w) : (BitVec.ofInt w (n : Int)).toNat = n := by
  rw [BitVec.toNat_ofInt]
  have e : (((2 ^ w : Nat) : Int)) = (2 ^ w : Nat) := rfl
  rw [Int.emod_eq_of_lt (by omega) (by omega)]; rfl
def orI (k : IntKind) (a b : Int) : Int := k.wrap ((BitVec.ofInt k.bits a) ||| (BitVec.ofInt k.bits b)).toNat
theorem binV_or (d : TypeDesc) (k : IntKind) (a b : Int) : binV d .or (.int k a) (.int k b) = some (.int k (orI k a b)) := by simp [binV, isSh, binI, orI]
theorem and_u8 (a b : Nat) (ha : a < 256) (hb : b < 256) : andI .u8 a b = ((a &&& b : Nat) : Int) := by
  have h1 : (BitVec.ofInt 8 (a : Int)).toNat = a := ofInt_nat 8 a (by omega)
  have h2 : (BitVec.ofInt 8 (b : Int)).toNat = b := ofInt_nat 8 b (by omega)
  show IntKind.u8.wrap (((BitVec.ofInt 8 (a : Int)) &&& (BitVec.ofInt 8 (b : Int))).toNat : Int) = _
  rw [BitVec.toNat_and, h1, h2]
  have : a &&& b ≤ a := Nat.and_le_left
  generalize a &&& b = c at *
  unfold IntKind.wrap; simp [IntKind.bits, IntKind.signed]; omega
theorem or_lt {a b n : Nat} (ha : a < 2 ^ n) (hb : b < 2 ^ n) : a ||| b < 2 ^ n := Nat.or_lt_two_pow ha hb
theorem or_i64 (a b : Nat) (ha : a < 2 ^ 63) (hb : b < 2 ^ 63) : orI .i64 a b = ((a ||| b : Nat) : Int) := by
  have h1 : (BitVec.ofInt 64 (a : Int)).toNat = a := ofInt_nat 64 a (by omega)
  have h2 : (BitVec.ofInt 64 (b : Int)).toNat = b := ofInt_nat 64 b (by omega)
  show IntKind.i64.wrap (((BitVec.ofInt 64 (a : Int)) ||| (BitVec.ofInt 64 (b : Int))).toNat : Int) = _
  rw [BitVec.toNat_or, h1, h2]
  have := or_lt ha hb
  generalize a ||| b = c at *
  exact wrap_nat (by omega)
theorem or_u8 (a b : Nat) (ha : a < 256) (hb : b < 256) : orI .u8 a b = ((a ||| b : Nat) : Int) := by
  have h1 : (BitVec.ofInt 8 (a : Int)).toNat = a := ofInt_nat 8 a (by omega)
  have h2 : (BitVec.ofInt 8 (b : Int)).toNat = b := ofInt_nat 8 b (by omega)
  show IntKind.u8.wrap (((BitVec.ofInt 8 (a : Int)) ||| (BitVec.ofInt 8 (b : Int))).toNat : Int) = _
  rw [BitVec.toNat_or, h1, h2]
  have := or_lt (n := 8) ha hb
  generalize a ||| b = c at *
  unfold IntKind.wrap; simp [IntKind.bits, IntKind.signed]; omega
theorem beq_dec (a b : Int) : (a == b) = decide (a = b) := by by_cases h : a = b <;> simp [h]
theorem bne_dec (a b : Int) : (a != b) = !decide (a = b) := by by_cases h : a = b <;> simp [h]

end Go.Al

namespace Go.Al
set_option linter.unusedVariables false
set_option linter.unusedSimpArgs false
set_option linter.unusedSectionVars false

/-! ### The sum -/
def crcS (c : Nat) : Nat := (c / 2) ^^^ (if c % 2 = 1 then 3988292384 else 0)
def crcT : Nat → Nat → Nat
  | 0, c => c
  | k + 1, c => crcT k (crcS c)
def crcB (c : Nat) (b : UInt8) : Nat := crcT 8 (c ^^^ b.toNat)
def crcF (c : Nat) (l : Bs) : Nat := l.foldl crcB c
def crc (l : Bs) : Nat := crcF 4294967295 l ^^^ 4294967295
theorem crcS_lt {c : Nat} (h : c < 2 ^ 32) : crcS c < 2 ^ 32 := by
  unfold crcS
  refine Nat.xor_lt_two_pow (by omega) ?_
  split <;> omega
theorem crcT_lt : ∀ (k : Nat) {c : Nat}, c < 2 ^ 32 → crcT k c < 2 ^ 32
  | 0, _, h => h
  | k + 1, _, h => crcT_lt k (crcS_lt h)
theorem xor_byte {c : Nat} (h : c < 2 ^ 32) (b : UInt8) : c ^^^ b.toNat < 2 ^ 32 := Nat.xor_lt_two_pow h (by have := b.toNat_lt; omega)
theorem crcB_lt {c : Nat} (h : c < 2 ^ 32) (b : UInt8) : crcB c b < 2 ^ 32 := crcT_lt 8 (xor_byte h b)
theorem crcF_lt : ∀ (l : Bs) {c : Nat}, c < 2 ^ 32 → crcF c l < 2 ^ 32
  | [], _, h => h
  | b :: l, _, h => crcF_lt l (crcB_lt h b)
theorem crc_lt (l : Bs) : crc l < 2 ^ 32 := Nat.xor_lt_two_pow (crcF_lt l (by omega)) (by omega)
theorem crcS_xor (a b : Nat) : crcS (a ^^^ b) = crcS a ^^^ crcS b := by
  unfold crcS
  have h1 : (a ^^^ b) / 2 = a / 2 ^^^ b / 2 := by
    have := Nat.shiftRight_xor_distrib (a := a) (b := b) (i := 1)
    simpa [Nat.shiftRight_eq_div_pow] using this
  have h2 : (a ^^^ b) % 2 = (a % 2 ^^^ b % 2) := by
    have := Nat.xor_mod_two_pow (a := a) (b := b) (n := 1)
    simpa using this
  rw [h1, h2]
  have ha : a % 2 = 0 ∨ a % 2 = 1 := by omega
  have hb : b % 2 = 0 ∨ b % 2 = 1 := by omega
  rcases ha with ha | ha <;> rcases hb with hb | hb <;> rw [ha, hb] <;> simp
  · rw [Nat.xor_assoc]
  · rw [Nat.xor_assoc, Nat.xor_assoc, Nat.xor_comm (b / 2)]
  · rw [Nat.xor_assoc, Nat.xor_comm 3988292384, Nat.xor_assoc, Nat.xor_self, Nat.xor_zero]
theorem crcT_xor : ∀ (k a b : Nat), crcT k (a ^^^ b) = crcT k a ^^^ crcT k b
  | 0, _, _ => rfl
  | k + 1, a, b => by rw [crcT, crcS_xor, crcT_xor k]; rfl
theorem crcT_shift : ∀ (k x : Nat), crcT k (x * 2 ^ k) = x
  | 0, x => by simp [crcT]
  | k + 1, x => by
    rw [crcT]
    have : crcS (x * 2 ^ (k + 1)) = x * 2 ^ k := by
      unfold crcS
      rw [Nat.pow_succ, ← Nat.mul_assoc, Nat.mul_div_cancel _ (by omega), if_neg (by omega), Nat.xor_zero]
    rw [this]; exact crcT_shift k x
theorem split_byte (c : Nat) : c = (c / 256 * 256) ^^^ (c % 256) := by
  have h := Nat.two_pow_add_eq_or_of_lt (i := 8) (b := c % 256) (by omega) (c / 256)
  apply Nat.eq_of_testBit_eq
  intro i
  rw [Nat.testBit_xor, show c / 256 * 256 = (c / 256) * 2 ^ 8 from rfl, Nat.testBit_mul_two_pow, show c % 256 = c % 2 ^ 8 from rfl, Nat.testBit_mod_two_pow, show c / 256 = c / 2 ^ 8 from rfl, Nat.testBit_div_two_pow]
  by_cases hi : i < 8
  · simp [hi, show ¬ 8 ≤ i by omega]
  · simp [hi, show 8 ≤ i by omega]
/-- A byte at once. -/
theorem crcB_table (c : Nat) (b : UInt8) : crcB c b = c / 256 ^^^ crcT 8 (c % 256 ^^^ b.toNat) := by
  unfold crcB
  have h : c ^^^ b.toNat = (c / 256 * 256) ^^^ (c % 256 ^^^ b.toNat) := by rw [← Nat.xor_assoc, ← split_byte]
  rw [h, crcT_xor, show c / 256 * 256 = c / 256 * 2 ^ 8 from rfl, crcT_shift]
/-! ### Numbers as so many bytes -/
def beN : Nat → Nat → Bs
  | 0, _ => []
  | k + 1, n => beN k (n / 256) ++ [UInt8.ofNat (n % 256)]
def ofB (l : Bs) : Nat := l.foldl (fun n b => n * 256 + b.toNat) 0
theorem beN_len : ∀ (k n : Nat), (beN k n).length = k
  | 0, _ => rfl
  | k + 1, n => by rw [beN, List.length_append, beN_len]; rfl
theorem ofB_snoc (l : Bs) (b : UInt8) : ofB (l ++ [b]) = ofB l * 256 + b.toNat := by unfold ofB; rw [List.foldl_append]; rfl
theorem ofN_toNat {n : Nat} (h : n < 256) : (UInt8.ofNat n).toNat = n := by simp [Nat.mod_eq_of_lt h]
theorem ofB_beN : ∀ (k n : Nat), ofB (beN k n) = n % 256 ^ k
  | 0, n => by simp [beN, ofB, Nat.mod_one]
  | k + 1, n => by
    rw [beN, ofB_snoc, ofB_beN, ofN_toNat (by omega), Nat.pow_succ]
    rw [Nat.mul_comm (256 ^ k) 256, Nat.mod_mul]
    omega
theorem snoc_of : ∀ (k : Nat) (l : Bs), l.length = k + 1 → ∃ m b, l = m ++ [b] ∧ m.length = k := by
  intro k l h
  have hne : l ≠ [] := by rintro rfl; simp at h
  exact ⟨l.dropLast, l.getLast hne, (List.dropLast_concat_getLast hne).symm, by rw [List.length_dropLast, h]; rfl⟩
theorem beN_ofB : ∀ (k : Nat) (l : Bs), l.length = k → beN k (ofB l) = l
  | 0, l, h => by rw [List.eq_nil_of_length_eq_zero h]; rfl
  | k + 1, l, h => by
    obtain ⟨m, b, rfl, hm⟩ := snoc_of k l h
    have hb := b.toNat_lt
    rw [ofB_snoc, beN, show (ofB m * 256 + b.toNat) / 256 = ofB m by omega, show (ofB m * 256 + b.toNat) % 256 = b.toNat by omega, beN_ofB k m hm]
    congr 2
    exact UInt8.toNat_inj.1 (ofN_toNat (by omega))
theorem ofB_lt : ∀ (k : Nat) (l : Bs), l.length = k → ofB l < 256 ^ k := by
  intro k l h
  have := ofB_beN k (ofB l)
  rw [beN_ofB k l h] at this
  rw [this]
  exact Nat.mod_lt _ (Nat.pow_pos (by omega))
theorem beN1 (b : UInt8) : beN 1 b.toNat = [b] := by
  have := beN_ofB 1 [b] rfl
  have h : ofB [b] = b.toNat := by simp [ofB]
  rw [h] at this; exact this

/-! ### Pages -/
structure Pg where
  lsn : Int
  kind : Int
  level : Int
  right : Int
  high : Bs
  items : List Bs
deriving DecidableEq
def pg0 : Pg := ⟨0, 0, 0, 0, [], []⟩
def zeros (n : Nat) : Bs := List.replicate n 0
theorem zeros_len (n : Nat) : (zeros n).length = n := List.length_replicate
def itB (it : Bs) : Bs := beN 2 it.length ++ it
theorem itB_len (it : Bs) : (itB it).length = 2 + it.length := by rw [itB, List.length_append, beN_len]
def pSize (p : Pg) : Nat := p.items.foldl (fun n it => n + (2 + it.length)) (20 + p.high.length)
def pHead (p : Pg) : Bs := beN 8 p.lsn.toNat ++ (beN 1 p.kind.toNat ++ (beN 1 p.level.toNat ++ (beN 4 p.right.toNat ++ (beN 1 p.items.length ++ (beN 1 p.high.length ++ p.high)))))
def pBody (p : Pg) : Bs := pHead p ++ p.items.flatMap itB
def pText (p : Pg) : Bs := pBody p ++ zeros (508 - (pBody p).length)
def pErr (p : Pg) : Int :=
  bif decide (p.lsn < 0 ∨ p.level < 0 ∨ p.right < 0 ∨ p.kind < 1 ∨ 3 < p.kind ∨ 255 < p.level ∨ 4294967295 < p.right) then 4
  else bif decide (255 < p.high.length ∨ 255 < p.items.length ∨ 512 < pSize p) then 3 else 0
def pEnc (p : Pg) : Bs × Int := bif decide (pErr p = 0) then (beN 4 (crc (pText p)) ++ pText p, 0) else ([], pErr p)
theorem foldl_len (l : List Bs) (n : Nat) : l.foldl (fun n it => n + (2 + it.length)) n = n + (l.flatMap itB).length := by
  induction l generalizing n with
  | nil => simp
  | cons x l ih => rw [List.foldl_cons, ih, List.flatMap_cons, List.length_append, itB_len]; omega
theorem pHead_len (p : Pg) : (pHead p).length = 16 + p.high.length := by
  simp only [pHead, List.length_append, beN_len]; omega
theorem pBody_len (p : Pg) : (pBody p).length + 4 = pSize p := by
  rw [pSize, foldl_len, pBody, List.length_append, pHead_len]; omega
theorem pText_len {p : Pg} (h : pSize p ≤ 512) : (pText p).length = 508 := by
  have := pBody_len p
  rw [pText, List.length_append, zeros_len]; omega
theorem pErr_ok {p : Pg} (h : pErr p = 0) : (0 ≤ p.lsn ∧ 0 ≤ p.level ∧ 0 ≤ p.right ∧ 1 ≤ p.kind ∧ p.kind ≤ 3 ∧ p.level ≤ 255 ∧ p.right ≤ 4294967295) ∧ p.high.length ≤ 255 ∧ p.items.length ≤ 255 ∧ pSize p ≤ 512 := by
  unfold pErr at h
  cases h1 : decide (p.lsn < 0 ∨ p.level < 0 ∨ p.right < 0 ∨ p.kind < 1 ∨ 3 < p.kind ∨ 255 < p.level ∨ 4294967295 < p.right) with
  | true => rw [h1] at h; simp at h
  | false =>
    cases h2 : decide (255 < p.high.length ∨ 255 < p.items.length ∨ 512 < pSize p) with
    | true => rw [h1, h2] at h; simp at h
    | false =>
      rw [decide_eq_false_iff_not] at h1 h2
      omega
theorem pErr_of {p : Pg} (h : (0 ≤ p.lsn ∧ 0 ≤ p.level ∧ 0 ≤ p.right ∧ 1 ≤ p.kind ∧ p.kind ≤ 3 ∧ p.level ≤ 255 ∧ p.right ≤ 4294967295) ∧ p.high.length ≤ 255 ∧ p.items.length ≤ 255 ∧ pSize p ≤ 512) : pErr p = 0 := by
  unfold pErr
  rw [show decide (p.lsn < 0 ∨ p.level < 0 ∨ p.right < 0 ∨ p.kind < 1 ∨ 3 < p.kind ∨ 255 < p.level ∨ 4294967295 < p.right) = false by rw [decide_eq_false_iff_not]; omega, show decide (255 < p.high.length ∨ 255 < p.items.length ∨ 512 < pSize p) = false by rw [decide_eq_false_iff_not]; omega]
  rfl
theorem pEnc_ok {p : Pg} (h : pErr p = 0) : pEnc p = (beN 4 (crc (pText p)) ++ pText p, 0) := by unfold pEnc; rw [h]; rfl
theorem pEnc_bad {p : Pg} (h : pErr p ≠ 0) : pEnc p = ([], pErr p) := by
  unfold pEnc
  rw [show decide (pErr p = 0) = false by simpa using h]; rfl
theorem pEnc_len {p : Pg} (h : pErr p = 0) : (pEnc p).1.length = 512 := by
  rw [pEnc_ok h, List.length_append, beN_len, pText_len (pErr_ok h).2.2.2]
theorem pEnc_err (p : Pg) : (pEnc p).2 = pErr p := by
  by_cases h : pErr p = 0
  · rw [pEnc_ok h, h]
  · rw [pEnc_bad h]

/-! ### Reading -/
def pItems : Nat → Bs → Option (List Bs × Bs)
  | 0, s => some ([], s)
  | n + 1, s => bif decide (s.length < 2) then none
    else bif decide ((s.drop 2).length < ofB (s.take 2)) then none
    else (pItems n ((s.drop 2).drop (ofB (s.take 2)))).map fun x => ((s.drop 2).take (ofB (s.take 2)) :: x.1, x.2)
theorem take_beN (k n : Nat) (t : Bs) : (beN k n ++ t).take k = beN k n := by rw [List.take_append_of_le_length (by rw [beN_len]; exact Nat.le_refl _), List.take_of_length_le (by rw [beN_len]; exact Nat.le_refl _)]
theorem drop_beN (k n : Nat) (t : Bs) : (beN k n ++ t).drop k = t := List.drop_left' (beN_len k n)
theorem pItems_of : ∀ (l : List Bs) (t : Bs), (∀ it ∈ l, it.length < 65536) → pItems l.length (l.flatMap itB ++ t) = some (l, t)
  | [], t, _ => rfl
  | x :: l, t, h => by
    have hx := h x (by simp)
    have ih := pItems_of l t (fun it hi => h it (List.mem_cons_of_mem _ hi))
    rw [List.length_cons, pItems, List.flatMap_cons, itB]
    have e : (beN 2 x.length ++ x ++ l.flatMap itB ++ t) = beN 2 x.length ++ (x ++ (l.flatMap itB ++ t)) := by simp only [List.append_assoc]
    rw [e, take_beN, drop_beN, ofB_beN, Nat.mod_eq_of_lt (by omega)]
    rw [show decide ((beN 2 x.length ++ (x ++ (l.flatMap itB ++ t))).length < 2) = false by rw [decide_eq_false_iff_not, List.length_append, beN_len]; omega, cond_false]
    rw [show decide ((x ++ (l.flatMap itB ++ t)).length < x.length) = false by rw [decide_eq_false_iff_not, List.length_append]; omega, cond_false]
    rw [List.drop_left, List.take_left, ih]; rfl
theorem pItems_is : ∀ (n : Nat) (s : Bs) (l : List Bs) (t : Bs), pItems n s = some (l, t) → l.length = n ∧ s = l.flatMap itB ++ t ∧ ∀ it ∈ l, it.length < 65536
  | 0, s, l, t, h => by
    rw [pItems] at h; cases h
    exact ⟨rfl, rfl, by simp⟩
  | n + 1, s, l, t, h => by
    rw [pItems] at h
    cases h1 : decide (s.length < 2) with
    | true => rw [h1, cond_true] at h; cases h
    | false =>
    cases h2 : decide ((s.drop 2).length < ofB (s.take 2)) with
    | true => rw [h1, h2, cond_false, cond_true] at h; cases h
    | false =>
    rw [h1, h2, cond_false, cond_false] at h
    cases h3 : pItems n ((s.drop 2).drop (ofB (s.take 2))) with
    | none => rw [h3] at h; cases h
    | some q =>
      obtain ⟨l', t'⟩ := q
      rw [h3] at h
      cases h
      obtain ⟨g1, g2, g3⟩ := pItems_is n _ _ _ h3
      rw [decide_eq_false_iff_not] at h1 h2
      have hlt : ofB (s.take 2) < 256 ^ 2 := ofB_lt 2 _ (by rw [List.length_take]; omega)
      have hl : ((s.drop 2).take (ofB (s.take 2))).length = ofB (s.take 2) := by rw [List.length_take]; omega
      refine ⟨by simp [g1], ?_, ?_⟩
      · rw [List.flatMap_cons, itB, hl, beN_ofB 2 _ (by rw [List.length_take]; omega)]
        rw [List.append_assoc, List.append_assoc, ← g2, List.take_append_drop, List.take_append_drop]
      · intro it hi
        rcases List.mem_cons.1 hi with rfl | hi
        · rw [hl]; exact hlt
        · exact g3 it hi

def dLsn (d : Bs) : Nat := ofB ((d.drop 4).take 8)
def dKind (d : Bs) : Nat := (d.getD 12 0).toNat
def dLevel (d : Bs) : Nat := (d.getD 13 0).toNat
def dRight (d : Bs) : Nat := ofB ((d.drop 14).take 4)
def dMany (d : Bs) : Nat := (d.getD 18 0).toNat
def dHl (d : Bs) : Nat := (d.getD 19 0).toNat
def dHigh (d : Bs) : Bs := (d.drop 20).take (dHl d)
def dRest (d : Bs) : Bs := (d.drop 20).drop (dHl d)
def pDec (d : Bs) : Pg × Int :=
  bif decide (d.length ≠ 512) then (pg0, 31)
  else bif decide (beN 4 (crc (d.drop 4)) ≠ d.take 4) then (pg0, 30)
  else match pItems (dMany d) (dRest d) with
    | none => (pg0, 31)
    | some (l, t) => bif decide (t ≠ zeros t.length ∨ 127 < (d.getD 4 0).toNat ∨ dKind d < 1 ∨ 3 < dKind d) then (pg0, 31)
      else (⟨(dLsn d % 2 ^ 63 : Nat), dKind d, dLevel d, dRight d, dHigh d, l⟩, 0)

/-- 512 bytes, taken apart. -/
def parts (s l8 : Bs) (k v : UInt8) (r : Bs) (n h : UInt8) (tail : Bs) : Bs := s ++ (l8 ++ (k :: v :: (r ++ (n :: h :: tail))))
theorem parts_of {d : Bs} (h : d.length = 512) : ∃ s l8 k v r n hh tail, d = parts s l8 k v r n hh tail ∧ s.length = 4 ∧ l8.length = 8 ∧ r.length = 4 ∧ tail.length = 492 := by
  match d, h with
  | s0 :: s1 :: s2 :: s3 :: a0 :: a1 :: a2 :: a3 :: a4 :: a5 :: a6 :: a7 :: k :: v :: r0 :: r1 :: r2 :: r3 :: n :: hh :: tail, h =>
    exact ⟨[s0, s1, s2, s3], [a0, a1, a2, a3, a4, a5, a6, a7], k, v, [r0, r1, r2, r3], n, hh, tail, rfl, rfl, rfl, rfl, by simp only [List.length_cons] at h; omega⟩
theorem parts_is {s l8 r tail : Bs} {k v n h : UInt8} (hs : s.length = 4) (h8 : l8.length = 8) (hr : r.length = 4) :
    (parts s l8 k v r n h tail).take 4 = s ∧ (parts s l8 k v r n h tail).drop 4 = l8 ++ (k :: v :: (r ++ (n :: h :: tail))) ∧ dLsn (parts s l8 k v r n h tail) = ofB l8 ∧ dKind (parts s l8 k v r n h tail) = k.toNat ∧ dLevel (parts s l8 k v r n h tail) = v.toNat ∧
    dRight (parts s l8 k v r n h tail) = ofB r ∧ dMany (parts s l8 k v r n h tail) = n.toNat ∧ dHl (parts s l8 k v r n h tail) = h.toNat ∧ (parts s l8 k v r n h tail).drop 20 = tail ∧ (parts s l8 k v r n h tail).getD 4 0 = l8.getD 0 0 := by
  match s, hs, l8, h8, r, hr with
  | [s0, s1, s2, s3], _, [a0, a1, a2, a3, a4, a5, a6, a7], _, [r0, r1, r2, r3], _ => exact ⟨rfl, rfl, rfl, rfl, rfl, rfl, rfl, rfl, rfl, rfl⟩
theorem ofB_top {l8 : Bs} (h8 : l8.length = 8) : 127 < (l8.getD 0 0).toNat ↔ 9223372036854775808 ≤ ofB l8 := by
  match l8, h8 with
  | [a0, a1, a2, a3, a4, a5, a6, a7], _ =>
    have h0 := a0.toNat_lt
    have h1 := a1.toNat_lt
    have h2 := a2.toNat_lt
    have h3 := a3.toNat_lt
    have h4 := a4.toNat_lt
    have h5 := a5.toNat_lt
    have h6 := a6.toNat_lt
    have h7 := a7.toNat_lt
    show 127 < a0.toNat ↔ _
    simp only [ofB, List.foldl_cons, List.foldl_nil]
    omega
theorem pText_parts (p : Pg) (s : Bs) : s ++ pText p = parts s (beN 8 p.lsn.toNat) (UInt8.ofNat (p.kind.toNat % 256)) (UInt8.ofNat (p.level.toNat % 256)) (beN 4 p.right.toNat) (UInt8.ofNat (p.items.length % 256)) (UInt8.ofNat (p.high.length % 256)) (p.high ++ (p.items.flatMap itB ++ zeros (508 - (pBody p).length))) := by
  rw [pText, pBody, pHead, parts]
  simp only [List.append_assoc]
  rfl
theorem item_short {p : Pg} (h : pSize p ≤ 512) : ∀ it ∈ p.items, it.length < 65536 := by
  intro it hi
  rw [pSize, foldl_len] at h
  have : it.length ≤ (p.items.flatMap itB).length := by
    obtain ⟨l1, l2, e⟩ := List.append_of_mem hi
    rw [e, List.flatMap_append, List.flatMap_cons, List.length_append, List.length_append, itB_len]; omega
  omega
/-- What is written is read as it was. -/
theorem dec_enc {p : Pg} (h : pErr p = 0) (hl : p.lsn ≤ 9223372036854775807) : pDec (pEnc p).1 = (p, 0) := by
  obtain ⟨⟨b1, b2, b3, b4, b5, b6, b7⟩, b8, b9, b10⟩ := pErr_ok h
  have hlen := pEnc_len h
  rw [pEnc_ok h] at hlen ⊢
  simp only at hlen ⊢
  obtain ⟨q1, q2, q3, q4, q5, q6, q7, q8, q9, q10⟩ := parts_is (s := beN 4 (crc (pText p))) (l8 := beN 8 p.lsn.toNat) (k := UInt8.ofNat (p.kind.toNat % 256)) (v := UInt8.ofNat (p.level.toNat % 256)) (r := beN 4 p.right.toNat) (n := UInt8.ofNat (p.items.length % 256)) (h := UInt8.ofNat (p.high.length % 256)) (tail := p.high ++ (p.items.flatMap itB ++ zeros (508 - (pBody p).length))) (beN_len _ _) (beN_len _ _) (beN_len _ _)
  have hp := pText_parts p (beN 4 (crc (pText p)))
  have hd4 : (beN 4 (crc (pText p)) ++ pText p).drop 4 = pText p := drop_beN _ _ _
  generalize hD : beN 4 (crc (pText p)) ++ pText p = D at hlen hd4 hp
  rw [← hp] at q1 q2 q3 q4 q5 q6 q7 q8 q9 q10
  rw [ofN_toNat (by omega)] at q4 q5 q7 q8
  rw [ofB_beN] at q3 q6
  have hmany : dMany D = p.items.length := by rw [q7]; omega
  have hhl : dHl D = p.high.length := by rw [q8]; omega
  have hhigh : dHigh D = p.high := by rw [dHigh, q9, hhl, List.take_left]
  have hrest : dRest D = p.items.flatMap itB ++ zeros (508 - (pBody p).length) := by rw [dRest, q9, hhl, List.drop_left]
  have htop : ¬ 127 < (D.getD 4 0).toNat := by
    rw [q10, ofB_top (beN_len _ _), ofB_beN]; omega
  unfold pDec
  rw [show decide (D.length ≠ 512) = false by simpa using hlen, cond_false]
  rw [show decide (beN 4 (crc (D.drop 4)) ≠ D.take 4) = false by rw [hd4, q1]; simp, cond_false]
  rw [hmany, hrest, pItems_of _ _ (item_short b10)]
  simp only
  have hz : ¬ zeros (508 - (pBody p).length) ≠ zeros (zeros (508 - (pBody p).length)).length := by rw [zeros_len]; simp
  rw [show decide (zeros (508 - (pBody p).length) ≠ zeros (zeros (508 - (pBody p).length)).length ∨ 127 < (D.getD 4 0).toNat ∨ dKind D < 1 ∨ 3 < dKind D) = false by
    rw [decide_eq_false_iff_not]
    rintro (h | h | h | h)
    · exact hz h
    · exact htop h
    · omega
    · omega, cond_false]
  rw [q3, q4, q5, q6, hhigh]
  obtain ⟨lsn, kind, level, right, high, items⟩ := p
  simp only at b1 b2 b3 b4 b5 b6 b7 hl ⊢
  congr 2 <;> omega
/-- What is read is written as it was. -/
theorem enc_dec {d : Bs} (h : (pDec d).2 = 0) : pErr (pDec d).1 = 0 ∧ (pEnc (pDec d).1).1 = d ∧ (pDec d).1.lsn ≤ 9223372036854775807 := by
  unfold pDec at h ⊢
  cases h1 : decide (d.length ≠ 512) with
  | true => rw [h1, cond_true] at h; simp at h
  | false =>
  cases h2 : decide (beN 4 (crc (d.drop 4)) ≠ d.take 4) with
  | true => rw [h1, h2, cond_false, cond_true] at h; simp at h
  | false =>
  rw [h1, h2, cond_false, cond_false] at h
  simp only [cond_false]
  cases h3 : pItems (dMany d) (dRest d) with
  | none => rw [h3] at h; simp at h
  | some q =>
  obtain ⟨l, t⟩ := q
  rw [h3] at h
  simp only at h ⊢
  cases h4 : decide (t ≠ zeros t.length ∨ 127 < (d.getD 4 0).toNat ∨ dKind d < 1 ∨ 3 < dKind d) with
  | true => rw [h4, cond_true] at h; simp at h
  | false =>
  simp only [cond_false]
  have hlen : d.length = 512 := by simpa using h1
  have hsum : beN 4 (crc (d.drop 4)) = d.take 4 := by simpa using h2
  rw [decide_eq_false_iff_not] at h4
  have n1 : t = zeros t.length := Classical.byContradiction fun hne => h4 (.inl hne)
  have n2 : ¬ 127 < (d.getD 4 0).toNat := fun e => h4 (.inr (.inl e))
  have n3 : ¬ dKind d < 1 := fun e => h4 (.inr (.inr (.inl e)))
  have n4 : ¬ 3 < dKind d := fun e => h4 (.inr (.inr (.inr e)))
  obtain ⟨g1, g2, g3⟩ := pItems_is _ _ _ _ h3
  obtain ⟨s, l8, k, v, r, n, hh, tail, hd, es, e8, er, et⟩ := parts_of hlen
  obtain ⟨q1, q2, q3, q4, q5, q6, q7, q8, q9, q10⟩ := parts_is (k := k) (v := v) (n := n) (h := hh) (tail := tail) es e8 er
  rw [← hd] at q1 q2 q3 q4 q5 q6 q7 q8 q9 q10
  have hl8 : ofB l8 < 9223372036854775808 := by
    rw [q10, ofB_top e8] at n2; omega
  have hk := k.toNat_lt
  have hv := v.toNat_lt
  have hn := n.toNat_lt
  have hhh := hh.toNat_lt
  have hr := ofB_lt 4 r er
  have hhigh : (dHigh d).length = hh.toNat := by rw [dHigh, q9, q8, List.length_take, et]; omega
  have htail : tail = dHigh d ++ (l.flatMap itB ++ t) := by rw [← g2, dHigh, dRest, q9, List.take_append_drop]
  generalize hP : (⟨(dLsn d % 2 ^ 63 : Nat), dKind d, dLevel d, dRight d, dHigh d, l⟩ : Pg) = P
  have hbody : d.drop 4 = pBody P ++ t := by
    rw [q2, ← hP, pBody, pHead]
    simp only [Int.toNat_natCast, q3, q4, q5, q6, hhigh, g1, q7]
    rw [Nat.mod_eq_of_lt (show ofB l8 < 2 ^ 63 by omega), beN_ofB 8 l8 e8, beN_ofB 4 r er, beN1, beN1, beN1, beN1, htail]
    simp only [List.append_assoc, List.cons_append, List.nil_append]
  have hbl : (pBody P).length + t.length = 508 := by
    have := congrArg List.length hbody
    rw [List.length_append, List.length_drop, hlen] at this; omega
  have htz : t = zeros (508 - (pBody P).length) := by
    rw [show 508 - (pBody P).length = t.length by omega]
    exact n1
  have hsz : pSize P ≤ 512 := by have := pBody_len P; omega
  have hok : pErr P = 0 := by
    refine pErr_of ⟨?_, ?_, ?_, hsz⟩
    · rw [← hP]
      simp only
      omega
    · rw [← hP]; simp only; omega
    · rw [← hP]; simp only; omega
  refine ⟨hok, ?_, ?_⟩
  · rw [pEnc_ok hok]
    have ht : pText P = d.drop 4 := by rw [pText, ← htz, hbody]
    simp only
    rw [ht, hsum, List.take_append_drop]
  · omega

end Go.Al

namespace Go.Al
set_option linter.unusedVariables false
set_option linter.unusedSimpArgs false
set_option linter.unusedSectionVars false

abbrev uv (n : Nat) : Value := Value.int .u32 n
abbrev qv (n : Nat) : Value := Value.int .u64 n
theorem cvI_int (k j : IntKind) (n : Int) : cvI k (.int j n) = some (.int k (k.wrap n)) := rfl
theorem wrap_u32 {n : Nat} (h : n < 2 ^ 32) : IntKind.u32.wrap (n : Int) = n := by
  unfold IntKind.wrap; simp [IntKind.bits, IntKind.signed]; omega
theorem wrap_u64 {n : Nat} (h : n < 2 ^ 64) : IntKind.u64.wrap (n : Int) = n := by
  unfold IntKind.wrap; simp [IntKind.bits, IntKind.signed]; omega
theorem wrap_u64_mod (n : Nat) : IntKind.u64.wrap (n : Int) = ((n % 2 ^ 64 : Nat) : Int) := by
  unfold IntKind.wrap; simp [IntKind.bits, IntKind.signed]
theorem wrap_u8_mod (n : Nat) : IntKind.u8.wrap (n : Int) = ((n % 256 : Nat) : Int) := by
  unfold IntKind.wrap; simp [IntKind.bits, IntKind.signed]
theorem xor_u32 (d : TypeDesc) {a b : Nat} (ha : a < 2 ^ 32) (hb : b < 2 ^ 32) : binV d .xor (uv a) (uv b) = some (uv (a ^^^ b)) := by
  have : binV d .xor (uv a) (uv b) = some (.int .u32 (IntKind.u32.wrap ((BitVec.ofInt 32 (a : Int)) ^^^ (BitVec.ofInt 32 (b : Int))).toNat)) := rfl
  rw [this, BitVec.toNat_xor, ofInt_nat 32 a ha, ofInt_nat 32 b hb, wrap_u32 (Nat.xor_lt_two_pow ha hb)]
theorem and_u32 (d : TypeDesc) {a b : Nat} (ha : a < 2 ^ 32) (hb : b < 2 ^ 32) : binV d .and (uv a) (uv b) = some (uv (a &&& b)) := by
  have : binV d .and (uv a) (uv b) = some (.int .u32 (IntKind.u32.wrap ((BitVec.ofInt 32 (a : Int)) &&& (BitVec.ofInt 32 (b : Int))).toNat)) := rfl
  rw [this, BitVec.toNat_and, ofInt_nat 32 a ha, ofInt_nat 32 b hb, wrap_u32 (Nat.lt_of_le_of_lt Nat.and_le_left ha)]
theorem not_u32 {a : Nat} (ha : a < 2 ^ 32) : unV .xor (uv a) = some (uv (a ^^^ 4294967295)) := by
  have : unV .xor (uv a) = some (.int .u32 (IntKind.u32.wrap ((BitVec.ofInt 32 (4294967295 : Nat)) ^^^ (BitVec.ofInt 32 (a : Int))).toNat)) := rfl
  rw [this, BitVec.toNat_xor, ofInt_nat 32 a ha, ofInt_nat 32 4294967295 (by omega), Nat.xor_comm, wrap_u32 (Nat.xor_lt_two_pow ha (by omega))]
theorem shr_u32 (d : TypeDesc) {a k : Nat} (hk : k ≤ 32) (j : IntKind) {b : Int} (hb : b = (k : Int)) : binV d .shr (uv a) (.int j b) = some (uv (a / 2 ^ k)) := by
  subst hb
  have h0 : ¬ ((k : Int) < 0) := by omega
  have e : binV d .shr (uv a) (.int j k) = some (.int .u32 ((a : Int).fdiv (2 ^ (min (k : Int).toNat IntKind.u32.bits)))) := by
    rw [binV_shr]; unfold shV; rw [if_neg h0]
  rw [e]
  have e2 : min (k : Int).toNat IntKind.u32.bits = k := by show min (k : Int).toNat 32 = k; omega
  rw [e2]
  congr 2
  rw [Int.fdiv_eq_ediv_of_nonneg _ (by exact Int.pow_nonneg (by decide))]
  have : ((2 : Int) ^ k) = ((2 ^ k : Nat) : Int) := by push_cast; rfl
  rw [this]; rfl
theorem shl_u64 (d : TypeDesc) (a : Nat) (j : IntKind) : binV d .shl (qv a) (.int j 8) = some (qv (a * 256 % 2 ^ 64)) := by
  have e : binV d .shl (qv a) (.int j 8) = some (.int .u64 (IntKind.u64.wrap ((a : Int) * 2 ^ 8))) := rfl
  rw [e, show (a : Int) * 2 ^ 8 = ((a * 256 : Nat) : Int) by omega, wrap_u64_mod]
theorem or_u64 (d : TypeDesc) {a b : Nat} (ha : a < 2 ^ 64) (hb : b < 256) (hz : a % 256 = 0) : binV d .or (qv a) (qv b) = some (qv (a + b)) := by
  have : binV d .or (qv a) (qv b) = some (.int .u64 (IntKind.u64.wrap ((BitVec.ofInt 64 (a : Int)) ||| (BitVec.ofInt 64 (b : Int))).toNat)) := rfl
  rw [this, BitVec.toNat_or, ofInt_nat 64 a ha, ofInt_nat 64 b (by omega)]
  have e : a ||| b = a + b := by
    have := Nat.two_pow_add_eq_or_of_lt (i := 8) (b := b) (by omega) (a / 256)
    have h2 : 2 ^ 8 * (a / 256) = a := by omega
    rw [h2] at this
    exact this.symm
  rw [e, wrap_u64 (by omega)]
theorem top_u64 (d : TypeDesc) {a : Nat} (ha : a < 2 ^ 64) : binV d .andNot (qv a) (.int .u64 9223372036854775808) = some (qv (a % 2 ^ 63)) := by
  have : binV d .andNot (qv a) (.int .u64 9223372036854775808) = some (.int .u64 (IntKind.u64.wrap ((BitVec.ofInt 64 (a : Int)) &&& ~~~ (BitVec.ofInt 64 ((2 ^ 63 : Nat) : Int))).toNat)) := rfl
  rw [this, BitVec.toNat_and, BitVec.toNat_not, ofInt_nat 64 a ha, ofInt_nat 64 (2 ^ 63) (by omega)]
  have e : a &&& (2 ^ 64 - 1 - 2 ^ 63) = a % 2 ^ 63 := by
    have : 2 ^ 64 - 1 - 2 ^ 63 = 2 ^ 63 - 1 := by omega
    rw [this]; exact Nat.and_two_pow_sub_one_eq_mod a 63
  rw [e, wrap_u64 (by omega)]
theorem beN_get : ∀ (k n i : Nat), i < k → (beN k n)[i]? = some (UInt8.ofNat (n / 256 ^ (k - 1 - i) % 256))
  | 0, _, _, h => by omega
  | k + 1, n, i, h => by
    rw [beN]
    by_cases hi : i < k
    · rw [List.getElem?_append_left (by rw [beN_len]; exact hi), beN_get k _ i hi]
      congr 3
      rw [Nat.div_div_eq_div_mul, ← Nat.pow_succ']
      congr 2
      omega
    · obtain rfl : i = k := by omega
      rw [List.getElem?_append_right (by rw [beN_len]; exact Nat.le_refl _), beN_len]
      simp
def bigB (n w : Int) : Bs := bif decide (w < 1) || decide (8 < w) || decide (n < 0) then [] else beN w.toNat n.toNat
theorem bigB_of {n w : Nat} (h1 : 1 ≤ w) (h8 : w ≤ 8) : bigB (n : Int) (w : Int) = beN w n := by
  unfold bigB
  rw [show (decide ((w : Int) < 1) || decide (8 < (w : Int)) || decide ((n : Int) < 0)) = false by simp; omega]
  simp
/-- The number of bytes, but for its highest bit. -/
def of64 (l : Bs) : Nat := l.foldl (fun n b => (n * 256 + b.toNat) % 2 ^ 64) 0
theorem of64_eq (l : Bs) : of64 l = ofB l % 2 ^ 64 := by
  have key : ∀ (l : Bs) (a b : Nat), a = b % 2 ^ 64 → l.foldl (fun n b => (n * 256 + b.toNat) % 2 ^ 64) a = l.foldl (fun n b => n * 256 + b.toNat) b % 2 ^ 64 := by
    intro l
    induction l with
    | nil => intro a b h; exact h
    | cons x l ih =>
      intro a b h
      refine ih _ _ ?_
      show (a * 256 + x.toNat) % 2 ^ 64 = (b * 256 + x.toNat) % 2 ^ 64
      omega
  exact key l 0 0 (by simp)
def ofN (l : Bs) : Nat := ofB l % 2 ^ 63
theorem ofN_short {l : Bs} (h : l.length ≤ 7) : ofN l = ofB l := by
  have := ofB_lt l.length l rfl
  have h2 : 256 ^ l.length ≤ 256 ^ 7 := Nat.pow_le_pow_right (by omega) h
  unfold ofN
  exact Nat.mod_eq_of_lt (by omega)

end Go.Al

namespace Go.Al
set_option linter.unusedVariables false
set_option linter.unusedSimpArgs false
set_option linter.unusedSectionVars false

/-- A number is read: its value, the rest, what was wrong (k bytes of it were read, which made n). -/
def rdN (most : Int) : Nat → Nat → Nat → Bs → Int × Bs × Int
  | 0, _, _, _ => (0, [], 11)
  | _ + 1, _, _, [] => (0, [], 10)
  | f + 1, k, n, b :: t =>
    let n' := n + (b.toNat % 128) * 128 ^ k
    bif decide (b = 0 ∧ 0 < k) then (0, [], 11)
    else bif decide (128 ≤ b.toNat) then rdN most f (k + 1) n' t
    else bif decide (max most 0 < (n' : Int)) then (0, [], 11)
    else (n', t, 0)
def rdNum (most : Int) (s : Bs) (e : Int) : Int × Bs × Int := bif decide (e = 0) then rdN most 9 0 0 s else (0, s, e)
def endE (s : Bs) (e : Int) : Int := bif decide (e = 0) && decide (0 < s.length) then 12 else e

def encN (n : Nat) : Bs := if 127 < n then UInt8.ofNat (n % 128 + 128) :: encN (n / 128) else [UInt8.ofNat n]
termination_by n
decreasing_by omega
theorem encN_small {n : Nat} (h : n ≤ 127) : encN n = [UInt8.ofNat n] := by rw [encN, if_neg (by omega)]
theorem encN_big {n : Nat} (h : 127 < n) : encN n = UInt8.ofNat (n % 128 + 128) :: encN (n / 128) := by rw [encN, if_pos h]
theorem encN_len : ∀ (f n : Nat), n < 128 ^ f → (encN n).length ≤ max f 1
  | 0, n, h => by rw [encN_small (by omega)]; simp
  | f + 1, n, h => by
    by_cases hn : 127 < n
    · rw [encN_big hn, List.length_cons]
      have := encN_len f (n / 128) (by rw [Nat.div_lt_iff_lt_mul (by omega)]; rw [Nat.pow_succ] at h; exact h)
      have hf : f ≠ 0 := by rintro rfl; simp at h; omega
      omega
    · rw [encN_small (by omega)]; simp
theorem encN_le {n : Nat} (h : n ≤ 9223372036854775807) : 1 ≤ (encN n).length ∧ (encN n).length ≤ 9 := by
  have := encN_len 9 n (by omega)
  refine ⟨?_, by omega⟩
  by_cases hn : 127 < n
  · rw [encN_big hn]; simp
  · rw [encN_small (by omega)]; simp
theorem u8_ofNat {n : Nat} (h : n < 256) : (UInt8.ofNat n).toNat = n := by simp [Nat.mod_eq_of_lt h]
/-- What was laid is read. -/
theorem rdN_enc (most : Int) : ∀ (f k n m : Nat) (t : Bs), n < 128 ^ f → 0 < f → (0 < k → 0 < n) → (m + n * 128 ^ k : Nat) ≤ max most 0 → rdN most f k m (encN n ++ t) = (((m + n * 128 ^ k : Nat) : Int), t, 0)
  | 0, k, n, m, t, h, h0, hk, hm => by omega
  | f + 1, k, n, m, t, h, h0, hk, hm => by
    by_cases hn : 127 < n
    · rw [encN_big hn, List.cons_append, rdN]
      have e1 : (UInt8.ofNat (n % 128 + 128)).toNat = n % 128 + 128 := u8_ofNat (by omega)
      have hne : decide (UInt8.ofNat (n % 128 + 128) = 0 ∧ 0 < k) = false := by
        rw [decide_eq_false_iff_not]
        rintro ⟨h, _⟩
        have := congrArg UInt8.toNat h
        rw [e1] at this; simp at this
      simp only [e1, hne, cond_false, show decide (128 ≤ n % 128 + 128) = true by simp, cond_true, Nat.add_mod_right, Nat.mod_mod]
      have hd : n / 128 < 128 ^ f := by rw [Nat.div_lt_iff_lt_mul (by omega)]; rw [Nat.pow_succ] at h; exact h
      have hf : 0 < f := by
        rcases Nat.eq_zero_or_pos f with rfl | hf
        · simp at h; omega
        · exact hf
      have key : m + n % 128 * 128 ^ k + n / 128 * 128 ^ (k + 1) = m + n * 128 ^ k := by
        have hdm := Nat.div_add_mod n 128
        calc m + n % 128 * 128 ^ k + n / 128 * 128 ^ (k + 1) = m + (128 * (n / 128) + n % 128) * 128 ^ k := by rw [Nat.pow_succ, Nat.add_mul]; simp only [Nat.mul_assoc, Nat.mul_comm, Nat.mul_left_comm]; omega
          _ = m + n * 128 ^ k := by rw [hdm]
      have := rdN_enc most f (k + 1) (n / 128) (m + n % 128 * 128 ^ k) t hd hf (fun _ => by omega) (by rw [key]; exact hm)
      rw [this, key]
    · rw [encN_small (by omega), List.cons_append, List.nil_append, rdN]
      have e1 : (UInt8.ofNat n).toNat = n := u8_ofNat (by omega)
      have hne : decide (UInt8.ofNat n = 0 ∧ 0 < k) = false := by
        rw [decide_eq_false_iff_not]
        rintro ⟨h, h2⟩
        have := congrArg UInt8.toNat h
        rw [e1] at this
        have := hk h2
        simp_all
      have e2 : n % 128 = n := Nat.mod_eq_of_lt (by omega)
      have e3 : decide (max most 0 < ((m + n * 128 ^ k : Nat) : Int)) = false := by rw [decide_eq_false_iff_not]; omega
      simp only [e1, hne, cond_false, show decide (128 ≤ n) = false by rw [decide_eq_false_iff_not]; omega, e2, e3]
theorem rdN_in (most : Int) : ∀ (f k n : Nat) (s : Bs), 0 ≤ (rdN most f k n s).1 ∧ (rdN most f k n s).1 ≤ max most 0 ∧ (rdN most f k n s).2.1.length ≤ s.length
  | 0, k, n, s => by simp [rdN]; omega
  | f + 1, k, n, [] => by simp [rdN]; omega
  | f + 1, k, n, b :: t => by
    rw [rdN]
    cases h1 : decide (b = 0 ∧ 0 < k) with
    | true => simp only [cond_true]; simp; omega
    | false =>
      simp only [cond_false]
      cases h2 : decide (128 ≤ b.toNat) with
      | true =>
        simp only [cond_true]
        have := rdN_in most f (k + 1) (n + b.toNat % 128 * 128 ^ k) t
        refine ⟨this.1, this.2.1, by simp; omega⟩
      | false =>
        simp only [cond_false]
        cases h3 : decide (max most 0 < ((n + b.toNat % 128 * 128 ^ k : Nat) : Int)) with
        | true => simp only [cond_true]; simp; omega
        | false =>
          simp only [cond_false]
          rw [decide_eq_false_iff_not] at h3
          refine ⟨by omega, by omega, by simp⟩

theorem or_add {n c k : Nat} (h : n < 2 ^ k) : n ||| (c * 2 ^ k) = n + c * 2 ^ k := by
  have := Nat.two_pow_add_eq_or_of_lt h c
  rw [Nat.or_comm, Nat.mul_comm c, ← this]; omega
theorem and127 (n : Nat) : n &&& 127 = n % 128 := Nat.and_two_pow_sub_one_eq_mod n 7
theorem or128 {n : Nat} (h : n < 256) : n ||| 128 = n % 128 + 128 := by
  have h1 : n = 128 * (n / 128) + n % 128 := (Nat.div_add_mod n 128).symm
  have h2 : n / 128 = 0 ∨ n / 128 = 1 := by omega
  rcases h2 with h2 | h2
  · have h3 : n < 2 ^ 7 := by omega
    have := or_add (c := 1) h3
    simp at this
    rw [this]; omega
  · have h4 := or_add (n := n % 128) (c := 1) (k := 7) (by omega)
    simp at h4
    have h5 : n = n % 128 ||| 128 := by rw [h4]; omega
    rw [h5, Nat.or_assoc, Nat.or_self, ← h5]; omega
theorem ixS_str {s : Bs} {k : Nat} {b : UInt8} (h : s[k]? = some b) (i : IntKind) : ixS (stv s) (.int i k) = some (.int .u8 b.toNat) := by
  have hl := (List.getElem?_eq_some_iff.1 h).1
  have hk : k < (str s).size := by rw [str_size]; exact hl
  have h1 : (str s)[k]? = some b := by
    rw [getElem?_pos (str s) k hk]
    have h2 : (str s)[k] = s[k] := rfl
    rw [h2]
    rw [List.getElem?_eq_getElem hl] at h; exact h
  simp [ixS, h1]
theorem shl_nat (a k : Nat) (h : a * 2 ^ k ≤ 9223372036854775807) (hk : k ≤ 64) (d : TypeDesc) (j : IntKind) : binV d .shl (iv a) (.int j k) = some (iv ((a * 2 ^ k : Nat) : Int)) := by
  have h0 : ¬ ((k : Int) < 0) := by omega
  have e : binV d .shl (iv a) (.int j k) = some (iv (IntKind.i64.wrap ((a : Int) * 2 ^ (min (k : Int).toNat IntKind.i64.bits)))) := by
    rw [binV_shl]; unfold shV; rw [if_neg h0]
  rw [e]
  have e2 : min (k : Int).toNat IntKind.i64.bits = k := by show min (k : Int).toNat 64 = k; omega
  rw [e2]
  have e3 : (a : Int) * 2 ^ k = ((a * 2 ^ k : Nat) : Int) := by push_cast; rfl
  rw [e3, wrap_nat h]
theorem shr_nat (a k : Nat) (hk : k ≤ 64) (d : TypeDesc) (j : IntKind) : binV d .shr (iv a) (.int j k) = some (iv ((a / 2 ^ k : Nat) : Int)) := by
  have h0 : ¬ ((k : Int) < 0) := by omega
  have e : binV d .shr (iv a) (.int j k) = some (iv ((a : Int).fdiv (2 ^ (min (k : Int).toNat IntKind.i64.bits)))) := by
    rw [binV_shr]; unfold shV; rw [if_neg h0]
  rw [e]
  have e2 : min (k : Int).toNat IntKind.i64.bits = k := by show min (k : Int).toNat 64 = k; omega
  rw [e2]
  congr 2
  rw [Int.fdiv_eq_ediv_of_nonneg _ (by exact Int.pow_nonneg (by decide))]
  have : ((2 : Int) ^ k) = ((2 ^ k : Nat) : Int) := by push_cast; rfl
  rw [this]; rfl

end Go.Al

namespace Go.Al
set_option linter.unusedVariables false
set_option linter.unusedSimpArgs false
set_option linter.unusedSectionVars false
open Go.ChangeShapes Go.WideShapes Go.ChangeAt Go.RowKit

theorem trodAll_below {H : Type} {enc : TypeId × Value → H} {P : Program} (hl : laidOutB P = true) {W W' : World} (hb : Below W.heap.size W W') :
    ∀ {ts : List TypeId} {vs : List Value} {ds : List (DataW H)} {ps : List MemPlace}, (∀ t ∈ ts, P.readableRec t = true ∧ t < P.types.size) → DataW.TrodAll enc P W 0 (fun _ => true) true ts vs ds ps → (∀ x ∈ ps, x.block < W.heap.size) →
      DataW.TrodAll enc P W' 0 (fun b => decide (b < W.heap.size)) true ts vs ds ps
  | [], [], [], _, _, h, _ => h
  | t :: ts, v :: vs, d :: ds, ps, hr, h, hlt => by
    obtain ⟨p, q, h1, h2, rfl⟩ := h
    exact ⟨p, q, Below.trod hl (hr t (by simp)).1 (hr t (by simp)).2 h1 hb (fun x hx => hlt x (by simp [hx])), trodAll_below hl hb (fun t ht => hr t (by simp [ht])) h2 (fun x hx => hlt x (by simp [hx])), rfl⟩
  | [], _ :: _, _, _, _, h, _ => by cases h
  | [], [], _ :: _, _, _, h, _ => by cases h
  | _ :: _, [], _, _, _, h, _ => by cases h
  | _ :: _, _ :: _, [], _, _, h, _ => by cases h

theorem cl_true {P : Program} {g : FuncId} {args : Array Value} {w : World} (h : Cl P g args.toList w fun v w' => v = .bool true ∧ Fm (fun _ => False) w w') :
    Calls P g args w fun e w' => e = .returned (.bool true) ∧ Below w.heap.size w w' := by
  have := h.out
  unfold Cl0 at this
  simp only [Array.toArray_toList] at this
  refine this.mono fun e w' he => ?_
  cases e with
  | returned v => exact ⟨by rw [he.1], he.2.below⟩
  | panicked c => exact he.elim
  | outgrown => exact he.elim

/-- What the row hands a law. -/
structure LawIn {H : Type} (enc : TypeId × Value → H) (P : Program) (ts : List TypeId) (W : World) (args : List Value) (ds : List (DataW H)) (p : List MemPlace) : Prop where
  trod : DataW.TrodAll enc P W 0 (fun _ => true) true ts args ds p
  ok : ∃ base, ∀ (j : Nat) t v, ts[j]? = some t → args[j]? = some v → Value.okWide P W .any base t v
  sized : (DataW.weightsEach P ts ds).all (· ≤ reachBytes) = true
  lt : ∀ x ∈ p, x.block < W.heap.size

theorem law_lifted {H : Type} {enc : TypeId × Value → H} {C : Checked} {os : Os} {f : FuncId} {fn : Func} {s : ChangeSpec} {conds : List PathCond} {tb : TypeId} (own : ownKnob C.prog.godebug = none) (started : os.Started) (noInit : C.prog.inits.idxOf? f = none) (hfn : C.prog.funcs[f]? = some fn)
    (hlaid : laidOutB C.prog = true)
    (witness : ∃ (w : World) (tape : Tape) (i : Input), w.os = os ∧ (w.forCall tape i).Shaped C.prog ∧ i.vars = [] ∧ Input.okWide C.prog (w.forCall tape i) .any w.heap.size f i ∧
      s.pre6 enc C.prog fn conds false (w.forCall tape i).memory i.args ∧ ({} : Assume).holds C.prog (lone (Frame.enter C.prog f i.args .normal) [] (w.forCall tape i)))
    (hres : fn.resultTypes = #[tb]) (hbool : C.prog.underlying tb = some .bool) (hvars : s.vars = [])
    (hrow : ∀ t ∈ fn.params.toList, C.prog.readableRec t = true ∧ t < C.prog.types.size)
    (hs : ∀ ds : List (DataW H), ds.length = fn.params.toList.length → s.fn H ds = { results := [.lit (.bool true)], args := ds, vars := [] })
    (law : ∀ (W : World) (args : List Value) (ds : List (DataW H)) (p : List MemPlace), LawIn enc C.prog fn.params.toList W args ds p → Cl C.prog f args W fun v w' => v = .bool true ∧ Fm (fun _ => False) W w') :
    ReturnsInHanded {} C os f .any (s.pre6 enc C.prog fn conds false) (s.post enc C.prog fn false true false false) := by
  refine returnsInHanded_of_change_sized own started noInit hfn witness ?_
  intro W base args ds gs before hval hW hcnd hsz _
  have hW' := hW
  obtain ⟨p, q, hA, hV, rfl, hfz, hnd⟩ := hW
  rw [hvars] at hV
  obtain ⟨rfl, rfl⟩ := trodVars_none hV
  have hty : s.plain.varTypes C.prog = [] := by simp [DataSpec.varTypes, ChangeSpec.plain, hvars]
  simp only [hty, List.append_nil] at hsz
  have hlt : ∀ x ∈ p, x.block < W.heap.size := fun x hx => hW'.lt x (by simp [hx])
  have hlen := (trodAll_length hA).2
  refine (cl_true (law W args.toList ds p ⟨hA, ⟨base, fun j t v hj hv => hval j t v (by simpa using hj) (by simpa using hv)⟩, hsz, hlt⟩)).mono fun e W' ⟨he, hb⟩ => ?_
  subst he
  refine ⟨_, rfl, ds, [], p ++ [], [], p, [], hW', ?_, ?_, ?_, hb.frame _, fun h => by cases h⟩
  · rw [List.append_nil, hs ds hlen, hres]
    exact trodAll_cons_mk (shut_bool hbool _) trodAll_mk0
  · rw [List.append_nil, hs ds hlen]
    exact trodAll_below hlaid hb hrow hA hlt
  · rw [List.append_nil, hs ds hlen, hvars]; trivial

end Go.Al

namespace Go.Al
set_option linter.unusedVariables false
set_option linter.unusedSimpArgs false
set_option linter.unusedSectionVars false
open Go.ChangeShapes Go.WideShapes Go.ChangeAt Go.RowKit

/-- A view of a type's cells as a thing of α. -/
structure Vw (P : Program) (t : TypeId) (α : Type) where
  rel : World → List Value → α → Prop
  keep : ∀ {w w' : World} {cs : List Value} {x : α}, rel w cs x → Fm (fun _ => False) w w' → rel w' cs x
  len : ∀ {w : World} {cs : List Value} {x : α}, rel w cs x → cs.length = P.cellsOf t
  opens : ∀ {H : Type} {enc : TypeId × Value → H} {w : World} {base : Nat} {spare : Nat → Bool} {held : Bool} {fuel : Nat} {cs : List Value} {y : DataW H × List MemPlace},
    DataW.trod enc P w base spare held fuel t cs = some y → (∀ n ∈ y.1.weights P t, n ≤ reachBytes) → ∃ x, rel w cs x

def vInt {P : Program} {t : TypeId} (k : IntKind) (ht : P.underlying t = some (.int k)) (hc : P.cellsOf t = 1) : Vw P t Int where
  rel := fun _ cs x => cs = [.int k x] ∧ (Lit.int k x).wf = true
  keep := fun h _ => h
  len := fun h => by rw [h.1, hc]; rfl
  opens := fun h _ => by
    obtain ⟨n, h1, h2, h3⟩ := DataW.trod_int ht h
    exact ⟨n, h1, h3⟩
def vBool {P : Program} {t : TypeId} (ht : P.underlying t = some .bool) (hc : P.cellsOf t = 1) : Vw P t Bool where
  rel := fun _ cs x => cs = [.bool x]
  keep := fun h _ => h
  len := fun h => by rw [h, hc]; rfl
  opens := fun h _ => by
    obtain ⟨n, h1, h2⟩ := DataW.trod_bool ht h
    exact ⟨n, h1⟩
def vStr {P : Program} {t : TypeId} (ht : P.underlying t = some .string) (hc : P.cellsOf t = 1) : Vw P t Bs where
  rel := fun _ cs x => cs = [stv x] ∧ x.length ≤ reachBytes
  keep := fun h _ => h
  len := fun h => by rw [h.1, hc]; rfl
  opens := fun h hw => by
    obtain ⟨s, h1, h2, _⟩ := DataW.trod_string ht h
    subst h2
    refine ⟨s.data.toList, by rw [h1, stv, str_data], hw _ (by simp [DataW.weights])⟩

theorem weightsAll_mem {H : Type} {P : Program} {e : TypeId} {d : DataW H} {n : Nat} (hn : n ∈ d.weights P e) : ∀ {l : List (DataW H)}, d ∈ l → n ∈ DataW.weightsAll P e l
  | [], h => by cases h
  | x :: l, h => by
    rw [DataW.weightsAll, List.mem_append]
    rcases List.mem_cons.1 h with rfl | h
    · exact .inl hn
    · exact .inr (weightsAll_mem hn h)

/-- A slice whose elements are viewed. -/
structure SliceAs {P : Program} {e : TypeId} {α : Type} (A : Vw P e α) (w : World) (v : Value) (xs : List α) : Prop where
  ex : ∃ a cap, v = .slice a xs.length cap ∧ xs.length ≤ cap ∧ cap ≤ maxLen ∧ (a = none → xs.length = 0 ∧ cap = 0) ∧
    ∀ i x, xs[i]? = some x → ∃ ad cs', a = some ad ∧ A.rel w cs' x ∧ ∀ j, j < P.cellsOf e → w.cell? (ad.add (i * P.cellsOf e + j)) = cs'[j]?
  small : xs.length * P.bytesOf e ≤ reachBytes
theorem SliceAs.keep {P : Program} {e : TypeId} {α : Type} {A : Vw P e α} {w w' : World} {v : Value} {xs : List α} (h : SliceAs A w v xs) (hf : Fm (fun _ => False) w w') : SliceAs A w' v xs := by
  obtain ⟨⟨a, cap, h1, h2, h3, h4, h5⟩, hs⟩ := h
  refine ⟨⟨a, cap, h1, h2, h3, h4, fun i x hi => ?_⟩, hs⟩
  obtain ⟨ad, cs', g1, g2, g3⟩ := h5 i x hi
  refine ⟨ad, cs', g1, A.keep g2 hf, fun j hj => ?_⟩
  have := g3 j hj
  have hl := A.len g2
  rw [List.getElem?_eq_getElem (by omega)] at this ⊢
  exact hf.cell' this (fun e => e)
theorem SliceAs.lenV {P : Program} {e : TypeId} {α : Type} {A : Vw P e α} {w : World} {v : Value} {xs : List α} (h : SliceAs A w v xs) : lenV v = some (iv xs.length) := by
  obtain ⟨⟨a, cap, rfl, _⟩, _⟩ := h; rfl
theorem SliceAs.len {P : Program} {e : TypeId} {α : Type} {A : Vw P e α} {w : World} {v : Value} {xs : List α} (h : SliceAs A w v xs) : xs.length ≤ maxLen := by
  obtain ⟨⟨a, cap, rfl, h1, h2, _⟩, _⟩ := h; omega
/-- Element i. -/
theorem SliceAs.at {P : Program} {e : TypeId} {α : Type} {A : Vw P e α} {w : World} {v : Value} {xs : List α} (h : SliceAs A w v xs) {i : Nat} {x : α} (hi : xs[i]? = some x) {c : Nat} (hc : P.cellsOf e = c) (k : IntKind) :
    ∃ ad cs', ixV c v (.int k i) = some (.pointer (some ad)) ∧ A.rel w cs' x ∧ ∀ j, j < c → w.cell? (ad.add j) = cs'[j]? := by
  obtain ⟨⟨a, cap, rfl, h1, h2, h3, h4⟩, _⟩ := h
  obtain ⟨ad, cs', rfl, g2, g3⟩ := h4 i x hi
  have hlt := (List.getElem?_eq_some_iff.1 hi).1
  exact ⟨_, cs', ixV_at hlt, g2, fun j hj => by rw [add_add, ← hc]; exact g3 j (by rw [hc]; exact hj)⟩
/-- As a run of cells. -/
theorem SliceAs.cells {P : Program} {e : TypeId} {α : Type} {A : Vw P e α} {w : World} {v : Value} {xs : List α} (h : SliceAs A w v xs) (hc : P.cellsOf e = 1) {f : α → Value} (hf : ∀ cs x, A.rel w cs x → cs = [f x]) : CellsAt w v xs.length 1 (xs.map f) := by
  obtain ⟨⟨a, cap, rfl, h1, h2, h3, h4⟩, _⟩ := h
  refine ⟨⟨a, cap, rfl, h1, h2, h3, fun j u hj => ?_⟩, by simp⟩
  rw [List.getElem?_map, Option.map_eq_some_iff] at hj
  obtain ⟨x, hx, rfl⟩ := hj
  obtain ⟨ad, cs', g1, g2, g3⟩ := h4 j x hx
  refine ⟨ad, g1, ?_⟩
  have := g3 0 (by omega)
  rw [hc, Nat.mul_one, Nat.add_zero, hf _ _ g2] at this
  exact this

def vSlice {P : Program} {t e : TypeId} {α : Type} (ht : P.underlying t = some (.slice e)) (hc : P.cellsOf t = 1) (A : Vw P e α) : Vw P t (List α) where
  rel := fun w cs xs => ∃ v, cs = [v] ∧ SliceAs A w v xs
  keep := fun ⟨v, h1, h2⟩ hf => ⟨v, h1, h2.keep hf⟩
  len := fun ⟨v, h1, _⟩ => by rw [h1, hc]; rfl
  opens := fun {H enc w base spare held fuel cs y} h hw => by
    rcases Deep.open_slice ht h with ⟨rfl, rfl⟩ | ⟨a, len, cap, m, n, D, Pl, rfl, _, hl, hcap, hm, rfl, hx⟩
    · exact ⟨[], _, rfl, ⟨none, 0, rfl, by simp, by simp [maxLen], fun _ => ⟨rfl, rfl⟩, fun i x hi => by simp at hi⟩, by simp⟩
    · have hlm : len ≤ m := by rw [hm]; split <;> omega
      have hwt : ∀ i, i < len → ∀ q ∈ (D i).weights P e, q ≤ reachBytes := fun i hi q hq => hw q (by
        simp only [DataW.weights, ht, List.mem_cons, List.mem_append]
        exact .inr (.inl (weightsAll_mem hq (List.mem_map.2 ⟨i, by simpa using hi, rfl⟩))))
      have hsm : len * P.bytesOf e ≤ reachBytes := by
        have := hw ((((List.range len).map D).length + ((List.range (m - len)).map fun j => D (len + j)).length) * P.bytesOf e) (by simp [DataW.weights, ht])
        refine Nat.le_trans (Nat.mul_le_mul_right _ ?_) this
        simp
      have key : ∀ i, i < len → ∃ x : α × List Value, A.rel w x.2 x.1 ∧ ∀ j, j < P.cellsOf e → w.cell? (a.add (i * P.cellsOf e + j)) = x.2[j]? := by
        intro i hi
        obtain ⟨cs', h1, h2⟩ := hx i (by omega)
        obtain ⟨_, hlen, hat⟩ := World.cells?_some h1
        obtain ⟨x, hxr⟩ := A.opens h2 (hwt i hi)
        exact ⟨(x, cs'), hxr, fun j hj => by rw [← add_add, hat j hj]⟩
      refine ⟨List.ofFn (n := len) (fun i => (Classical.choose (key i i.2)).1), _, rfl, ⟨some a, cap, by simp, by simpa using hl, hcap, fun e => by simp at e, fun i x hi => ?_⟩, by simpa using hsm⟩
      rw [List.getElem?_ofFn] at hi
      split at hi
      · rename_i hi1
        simp only [Option.some.injEq] at hi
        subst hi
        have hk := Classical.choose_spec (key i hi1)
        exact ⟨a, _, rfl, hk.1, hk.2⟩
      · cases hi

/-- A view of a struct's fields from cell o on. -/
structure Fv (P : Program) (fs : List Field) (o : Nat) (α : Type) where
  c : Nat
  rel : World → List Value → α → Prop
  keep : ∀ {w w' : World} {cs : List Value} {x : α}, rel w cs x → Fm (fun _ => False) w w' → rel w' cs x
  len : ∀ {w : World} {cs : List Value} {x : α}, rel w cs x → cs.length = c
  opens : ∀ {H : Type} {enc : TypeId × Value → H} {w : World} {base : Nat} {spare : Nat → Bool} {held : Bool} {n : Nat} {cs0 : List Value} {ys : List (DataW H × List MemPlace)},
    (∀ (i : Nat) (f : Field), fs[i]? = some f → DataW.trod enc P w base spare held n f.type ((cs0.drop f.offset).take (P.cellsOf f.type)) = ys[i]?) → ys.length = fs.length →
    (∀ (i : Nat) (f : Field) (y : DataW H × List MemPlace), fs[i]? = some f → ys[i]? = some y → ∀ n ∈ y.1.weights P f.type, n ≤ reachBytes) → ∃ x, rel w ((cs0.drop o).take c) x
def fvNil {P : Program} {o : Nat} : Fv P [] o Unit where
  c := 0
  rel := fun _ cs _ => cs = []
  keep := fun h _ => h
  len := fun h => by rw [h]; rfl
  opens := fun _ _ _ => ⟨(), by simp⟩
def fvCons {P : Program} {f : Field} {fs : List Field} {o : Nat} {α β : Type} (hf : f.offset = o) (n : Nat) (hn : P.cellsOf f.type = n) (A : Vw P f.type α) (B : Fv P fs (o + n) β) : Fv P (f :: fs) o (α × β) where
  c := n + B.c
  rel := fun w cs x => ∃ c1 c2, cs = c1 ++ c2 ∧ A.rel w c1 x.1 ∧ B.rel w c2 x.2
  keep := fun ⟨c1, c2, h1, h2, h3⟩ hf => ⟨c1, c2, h1, A.keep h2 hf, B.keep h3 hf⟩
  len := fun ⟨c1, c2, h1, h2, h3⟩ => by rw [h1, List.length_append, A.len h2, B.len h3, hn]
  opens := fun {H enc w base spare held m cs0 ys} h hl hw => by
    have h0 := h 0 f rfl
    cases ys with
    | nil => simp at hl
    | cons y ys =>
      obtain ⟨x, hx⟩ := A.opens h0 (hw 0 f y rfl rfl)
      obtain ⟨x', hx'⟩ := B.opens (enc := enc) (w := w) (base := base) (spare := spare) (held := held) (n := m) (cs0 := cs0) (ys := ys) (fun i g hg => by have := h (i + 1) g (by simpa using hg); simpa using this) (by simpa using hl) (fun i g y' hg hy' => hw (i + 1) g y' (by simpa using hg) (by simpa using hy'))
      refine ⟨(x, x'), _, _, ?_, hx, hx'⟩
      rw [hf, hn]
      rw [List.take_add, List.drop_drop]

/-- A struct whose fields are viewed. -/
def vStruct {P : Program} {t : TypeId} {fs : Array Field} {α : Type} (ht : P.underlying t = some (.struct fs)) (F : Fv P fs.toList 0 α) (hc : P.cellsOf t = F.c) : Vw P t α where
  rel := F.rel
  keep := F.keep
  len := fun h => by rw [hc]; exact F.len h
  opens := fun {H enc w base spare held fuel cs y} h hw => by
    obtain ⟨xs, n, _, rfl, hl, hlen, hf⟩ := DataW.trod_struct ht h
    obtain ⟨x, hx⟩ := F.opens (enc := enc) (w := w) (base := base) (spare := spare) (held := held) (n := n) (cs0 := cs) (ys := xs) (fun i f hi => hf i f (by simpa using hi)) (by simpa using hlen) (fun i f y hi hy q hq => hw q (by
      simp only [DataW.weights, ht]
      exact DataW.weights_mem_each (j := i) (t := f.type) (d := y.1) (by rw [List.getElem?_map, hi]; rfl) (by rw [List.getElem?_map, hy]; rfl) q hq))
    refine ⟨x, ?_⟩
    have : (cs.drop 0).take F.c = cs := by rw [List.drop_zero, List.take_of_length_le (by omega)]
    rw [this] at hx; exact hx

/-- What the row hands a law, argument by argument. -/
theorem LawIn.arg {H : Type} {enc : TypeId × Value → H} {P : Program} {ts : List TypeId} {W : World} {args : List Value} {ds : List (DataW H)} {p : List MemPlace} (h : LawIn enc P ts W args ds p) {j : Nat} {t : TypeId} (ht : ts[j]? = some t) {α : Type} (A : Vw P t α) :
    ∃ v x base, args[j]? = some v ∧ A.rel W v.cells.toList x ∧ Value.okWide P W .any base t v := by
  obtain ⟨hA, ⟨base, hval⟩, hsz, -⟩ := h
  have hw : ∀ (j : Nat) (t : TypeId) (d : DataW H), ts[j]? = some t → ds[j]? = some d → ∀ n ∈ d.weights P t, n ≤ reachBytes := fun j t d h1 h2 n hn => by
    have := List.all_eq_true.1 hsz _ (DataW.weights_mem_each h1 h2 n hn)
    simpa using this
  have key : ∀ (ts : List TypeId) (vs : List Value) (ds : List (DataW H)) (p : List MemPlace), DataW.TrodAll enc P W 0 (fun _ => true) true ts vs ds p → ∀ (j : Nat) (t : TypeId), ts[j]? = some t → ∃ (v : Value) (d : DataW H) (q : List MemPlace), vs[j]? = some v ∧ ds[j]? = some d ∧ DataW.Trod enc P W 0 (fun _ => true) true t v d q := by
    intro ts
    induction ts with
    | nil => intro vs ds p _ j t ht; simp at ht
    | cons t0 ts ih =>
      intro vs ds p hA j t ht
      obtain ⟨v0, vs0, d0, ds0, p0, q0, rfl, rfl, rfl, h0, r0⟩ := trodAll_cons hA
      cases j with
      | zero => simp at ht; subst ht; exact ⟨v0, d0, p0, rfl, rfl, h0⟩
      | succ j => obtain ⟨v, d, q, h1, h2, h3⟩ := ih vs0 ds0 q0 r0 j t (by simpa using ht); exact ⟨v, d, q, by simpa using h1, by simpa using h2, h3⟩
  obtain ⟨v, d, q, h1, h2, fuel, h3⟩ := key ts args ds p hA j t ht
  obtain ⟨x, hx⟩ := A.opens h3 (hw j t d ht h2)
  exact ⟨v, x, base, h1, hx, hval j t v ht h1⟩
theorem LawIn.len {H : Type} {enc : TypeId × Value → H} {P : Program} {ts : List TypeId} {W : World} {args : List Value} {ds : List (DataW H)} {p : List MemPlace} (h : LawIn enc P ts W args ds p) : args.length = ts.length := (trodAll_length h.trod).1
theorem arg_int {P : Program} {W : World} {base : Nat} {t : TypeId} {k : IntKind} {ht : P.underlying t = some (.int k)} {hc : P.cellsOf t = 1} {v : Value} {x : Int} (h : (vInt k ht hc).rel W v.cells.toList x) (hv : Value.okWide P W .any base t v) : v = .int k x ∧ (Lit.int k x).wf = true := by
  obtain ⟨n, rfl⟩ := okWide_int ht hv
  obtain ⟨h1, h2⟩ := h
  simp [Value.cells] at h1
  exact ⟨by rw [h1], h2⟩
theorem arg_bool {P : Program} {W : World} {base : Nat} {t : TypeId} {ht : P.underlying t = some .bool} {hc : P.cellsOf t = 1} {v : Value} {x : Bool} (h : (vBool ht hc).rel W v.cells.toList x) (hv : Value.okWide P W .any base t v) : v = .bool x := by
  obtain ⟨n, rfl⟩ := okWide_bool ht hv
  have h1 : (Value.bool n).cells.toList = [.bool x] := h
  simp [Value.cells] at h1
  rw [h1]
theorem arg_str {P : Program} {W : World} {base : Nat} {t : TypeId} {ht : P.underlying t = some .string} {hc : P.cellsOf t = 1} {v : Value} {x : Bs} (h : (vStr ht hc).rel W v.cells.toList x) (hv : Value.okWide P W .any base t v) : v = stv x ∧ x.length ≤ reachBytes := by
  obtain ⟨n, rfl⟩ := okWide_string ht hv
  obtain ⟨h1, h2⟩ := h
  simp [Value.cells] at h1
  exact ⟨by rw [stv, h1], h2⟩
theorem arg_slice {P : Program} {W : World} {base : Nat} {t e : TypeId} {α : Type} {ht : P.underlying t = some (.slice e)} {hc : P.cellsOf t = 1} {A : Vw P e α} {v : Value} {x : List α} (h : (vSlice ht hc A).rel W v.cells.toList x) (hv : Value.okWide P W .any base t v) : SliceAs A W v x := by
  obtain ⟨a, n, c, rfl⟩ := okWide_slice ht hv
  obtain ⟨u, h1, h2⟩ := h
  simp [Value.cells] at h1
  rw [h1]; exact h2
theorem arg_struct {P : Program} {W : World} {base : Nat} {t : TypeId} {fs : Array Field} {α : Type} {ht : P.underlying t = some (.struct fs)} {F : Fv P fs.toList 0 α} {hc : P.cellsOf t = F.c} {v : Value} {x : α} (h : (vStruct ht F hc).rel W v.cells.toList x) (hv : Value.okWide P W .any base t v) : ∃ cs, v = .agg cs ∧ F.rel W cs.toList x := by
  obtain ⟨cs, rfl, _⟩ := okWide_struct ht hv
  exact ⟨cs, rfl, h⟩

end Go.Al

namespace Go.Al
set_option linter.unusedVariables false
set_option linter.unusedSimpArgs false
set_option linter.unusedSectionVars false

/-- A row just laid is the call's own. -/
theorem own_alloc {w : World} {e : TypeId} {l : List Value} (hl : l.length ≤ maxLen) {base : Nat} (hb : base ≤ w.heap.size) : (w.alloc (.cells l.toArray e)).ownsRow base e 1 (.slice (some ⟨w.heap.size, 0, none⟩) l.length l.length) l.length l :=
  ⟨by simp, .inr ⟨w.heap.size, l.length, l.toArray, rfl, hb, alloc_new _ _, Nat.le_refl _, hl, by simp, by simp⟩⟩
/-- 'append(out, src...)': nothing but out's own block turns. -/
theorem append_srcO {P : Program} {t e : TypeId} {sz bytes : Nat} (E : ElemT P t e sz bytes) (hsz : 0 < sz) {w : World} {base : Nat} {v u : Value} {n m : Nat} {xs news : List Value} (h : w.ownsRow base e sz v n xs) (hu : CellsAt w u m sz news) (h1 : ∀ u ∈ news, u.oneCell' = true) (ty : TypeId)
    (h63 : n + m ≤ maxLen) (hbytes : (n + m) * bytes ≤ 140737488355328) (hbase : base ≤ w.heap.size) :
    ∃ v' w', (Builtin.append_ #[t, t] ty #[v, u]).run P w = .ok v' w' ∧ w'.ownsRow base e sz v' (n + m) (xs ++ news) ∧ Fm (fun b => v.ownBlock = some b) w w' := by
  obtain ⟨i, z, hi, hz, hs, hb, hzs⟩ := E.info
  obtain ⟨⟨a, c, rfl, hn1, hn2, h3, h4⟩, hl⟩ := hu
  cases a with
  | some ad =>
    obtain ⟨v', w', hr, ho, hg, hn⟩ := run_append_own (P := P) w base t ty e i z sz bytes E.sl hi hz hs hb hzs hsz v n xs h ad m c news hl (fun j x hj => by obtain ⟨ad', e, hc⟩ := h4 j x hj; cases e; exact hc) h1 h63 hbytes hbase
    exact ⟨v', w', hr, ho, Fm.grown (S := fun b => v.ownBlock = some b) hg (fun k hk _ => hk)⟩
  | none =>
    obtain ⟨rfl, rfl⟩ := h3 rfl
    rw [Nat.zero_mul] at hl
    obtain rfl := List.eq_nil_of_length_eq_zero hl
    exact ⟨v, w, run_append_owned_none (P := P) (w := w) base t ty e i sz E.sl hi v n xs h, by simpa using h, Fm.refl _ _⟩

end Go.Al

namespace Go.Al
set_option linter.unusedVariables false
set_option linter.unusedSimpArgs false
set_option linter.unusedSectionVars false
open Go.ChangeShapes Go.WideShapes Go.ChangeAt Go.RowKit

theorem cellsV_keep {S : Nat → Prop} {w w' : World} {ad : Addr} {n : Nat} {x : Value} (h : cellsV w ad n = some x) (hf : Fm S w w') (hs : ¬ S ad.block) : cellsV w' ad n = some x := by
  have key : ∀ (n i : Nat) (l : List Value), cellsAt w ad i n = some l → cellsAt w' ad i n = some l := by
    intro n
    induction n with
    | zero => intro i l hl; simpa [cellsAt] using hl
    | succ n ih =>
      intro i l hl
      simp only [cellsAt] at hl ⊢
      cases hc : w.cell? (ad.add i) with
      | none => rw [hc] at hl; cases hl
      | some v =>
        rw [hc] at hl
        rw [hf.cell' hc (by rw [add_block]; exact hs)]
        cases hr : cellsAt w ad (i + 1) n with
        | none => rw [hr] at hl; cases hl
        | some l' =>
          rw [hr] at hl
          rw [ih _ _ hr]; exact hl
  unfold cellsV at h ⊢
  cases hc : cellsAt w ad 0 n with
  | none => rw [hc] at h; cases h
  | some l => rw [hc] at h; rw [key _ _ _ hc]; exact h
/-- An element read at once. -/
theorem SliceAs.ld {P : Program} {e : TypeId} {α : Type} {A : Vw P e α} {w : World} {v : Value} {xs : List α} (h : SliceAs A w v xs) {i : Nat} {x : α} (hi : xs[i]? = some x) {c : Nat} (hc : P.cellsOf e = c) (k : IntKind) :
    ∃ ad cs', ixV c v (.int k i) = some (.pointer (some ad)) ∧ A.rel w cs' x ∧ cellsV w ad c = some (.agg cs'.toArray) ∧ ∀ j, j < c → w.cell? (ad.add j) = cs'[j]? := by
  obtain ⟨ad, cs', h1, h2, h3⟩ := h.at hi hc k
  have hlen : cs'.length = c := by rw [← hc]; exact A.len h2
  refine ⟨ad, cs', h1, h2, ?_, h3⟩
  have key : ∀ (n j : Nat), j + n ≤ c → cellsAt w ad j n = some ((cs'.drop j).take n) := by
    intro n
    induction n with
    | zero => intro j hj; simp [cellsAt]
    | succ n ih =>
      intro j hj
      have hlt : j < cs'.length := by omega
      have hcell := h3 j (by omega)
      rw [List.getElem?_eq_getElem hlt] at hcell
      simp only [cellsAt, hcell, ih (j + 1) (by omega), Option.map_some]
      rw [List.drop_eq_getElem_cons hlt, List.take_succ_cons]
  unfold cellsV
  rw [key c 0 (by omega)]
  simp only [List.drop_zero, Option.map_some]
  rw [List.take_of_length_le (by omega)]
end Go.Al

namespace Go.Proofs.YthbngnlmgplijaaGreatDoor
open Go.Al Go.Proofs
set_option linter.unusedVariables false
set_option linter.unusedSimpArgs false
set_option linter.unusedSectionVars false
set_option maxRecDepth 100000

abbrev pv (b : Nat) : Value := .pointer (some ⟨b, 0, none⟩)
theorem Fmf {a b c : World} (h : Fm (fun _ => False) a b) (k : Fm (fun _ => False) b c) : Fm (fun _ => False) a c := h.trans k (fun _ _ e => e) (fun _ _ e => e)
theorem Fm.own {S : Nat → Prop} {a b c : World} (h : Fm (fun _ => False) a b) (k : Fm S b c) (hS : ∀ x, S x → a.heap.size ≤ x) : Fm (fun _ => False) a c := h.trans k (fun _ _ e => e) (fun x hx e => by have := hS x e; omega)
abbrev In (n : Int) : Prop := -9223372036854775808 ≤ n ∧ n ≤ 9223372036854775807
theorem B38 : ByteT Tryz.prog 123 5 9 := byteT_of Tryz.underlying123 Tryz.underlying5 Tryz.underlying9 (by kernel_rfl)

theorem half_u32 {c : Nat} (hc : c < 2 ^ 32) : ∃ x y : Value, unV .neg (uv (c &&& 1)) = some x ∧ binV (TypeDesc.int IntKind.u32) .and (Value.int IntKind.u32 3988292384) x = some y ∧ binV (TypeDesc.int IntKind.u32) .xor (uv (c / 2)) y = some (uv (crcS c)) := by
  rw [Nat.and_one_is_mod]
  unfold crcS
  have h2 : c % 2 = 0 ∨ c % 2 = 1 := by omega
  rcases h2 with h2 | h2
  · rw [h2]
    exact ⟨uv 0, uv 0, rfl, rfl, by rw [xor_u32 _ (by omega) (by omega)]; rfl⟩
  · rw [h2, if_pos rfl]
    exact ⟨uv 4294967295, uv 3988292384, rfl, rfl, by rw [xor_u32 _ (by omega) (by omega)]⟩
theorem crcT_snoc : ∀ (k c : Nat), crcT (k + 1) c = crcS (crcT k c)
  | 0, c => rfl
  | k + 1, c => by rw [crcT, crcT_snoc k]; rfl
theorem turned_spec (w : World) {c : Nat} (hc : c < 2 ^ 32) : Cl Tryz.prog 147 [uv c] w fun r w' => r = uv (crcT 8 c) ∧ w' = w := by
  refine c147 ?_; unfold T147
  refine ⟨fun vs w2 => ∃ i : Nat, vs = [uv (crcT i c), iv i] ∧ i ≤ 8 ∧ w2 = w, fun vs _ => (8 - nth vs 1).toNat, ⟨0, rfl, by omega, rfl⟩, ?_⟩
  rintro _ w2 cv ivv ⟨i, hvs, hi, rfl⟩
  cases hvs
  have hl := crcT_lt i hc
  by_cases hlt : i < 8
  · have e1 : decide ((i : Int) < 8) = true := by rw [decide_eq_true_eq]; omega
    have e2 : IntKind.i64.wrap ((i : Int) + 1) = ((i + 1 : Nat) : Int) := by rw [wrap_id] <;> omega
    obtain ⟨x, y, h1, h2, h3⟩ := half_u32 hl
    have s1 : binV (TypeDesc.int IntKind.u32) .shr (uv (crcT i c)) (Value.int IntKind.u64 1) = some (uv (crcT i c / 2)) := shr_u32 _ (k := 1) (by omega) .u64 rfl
    have a1 : binV (TypeDesc.int IntKind.u32) .and (uv (crcT i c)) (Value.int IntKind.u32 1) = some (uv (crcT i c &&& 1)) := and_u32 _ hl (b := 1) (by omega)
    simp only [RS0, RS1, RS2, RS3, RS4, RS5, e1, s1, a1, h1, h2, h3, e2]
    exact ⟨⟨i + 1, by rw [crcT_snoc], by omega, (by trivial)⟩, by simp only [nth_1]; omega⟩
  · obtain rfl : i = 8 := by omega
    have e1 : decide (((8 : Nat) : Int) < 8) = false := by simp
    simp only [RS0, RS1, RS2, RS3, RS4, RS5, e1]
    exact ⟨(by trivial), (by trivial)⟩
theorem crcF_take {l : Bs} {i : Nat} {b : UInt8} (c : Nat) (h : l[i]? = some b) : crcF c (l.take (i + 1)) = crcB (crcF c (l.take i)) b := by
  unfold crcF
  rw [List.take_add_one, h, List.foldl_append]; rfl
theorem sum_spec (w : World) (l : Bs) (hl : l.length ≤ 9223372036854775806) : Cl Tryz.prog 80 [stv l] w fun r w' => r = uv (crc l) ∧ w' = w := by
  refine c80 ?_; unfold T80
  simp only [RS0, RS1, RS2, RS3, RS4, RS5, str_size]
  refine ⟨fun vs w2 => ∃ i : Nat, vs = [uv (crcF 4294967295 (l.take i)), iv i] ∧ i ≤ l.length ∧ w2 = w, fun vs _ => (l.length - nth vs 1).toNat, ⟨0, rfl, by omega, rfl⟩, ?_⟩
  rintro _ w2 cv ivv ⟨i, hvs, hi, rfl⟩
  cases hvs
  have hc := crcF_lt (l.take i) (c := 4294967295) (by omega)
  by_cases hlt : i < l.length
  · have e1 : decide ((i : Int) < (l.length : Int)) = true := by rw [decide_eq_true_eq]; omega
    have e2 : IntKind.i64.wrap ((i : Int) + 1) = ((i + 1 : Nat) : Int) := by rw [wrap_id] <;> omega
    have hx : l[i]? = some l[i] := List.getElem?_eq_getElem hlt
    generalize l[i] = b at hx
    have hst := crcF_take 4294967295 hx
    generalize crcF 4294967295 (l.take i) = c at hc hst
    rw [crcB_table] at hst
    have hb := b.toNat_lt
    have s1 : binV (TypeDesc.int IntKind.u32) .shr (uv c) (Value.int IntKind.u64 8) = some (uv (c / 256)) := shr_u32 _ (k := 8) (by omega) .u64 rfl
    have a1 : binV (TypeDesc.int IntKind.u32) .and (uv c) (Value.int IntKind.u32 255) = some (uv (c % 256)) := by
      have := and_u32 (TypeDesc.int IntKind.u32) hc (b := 255) (by omega)
      rw [show c &&& 255 = c % 256 from Nat.and_two_pow_sub_one_eq_mod c 8] at this; exact this
    have q1 : IntKind.u32.wrap (b.toNat : Int) = (b.toNat : Int) := wrap_u32 (by omega)
    have x1 := xor_u32 (TypeDesc.int IntKind.u32) (a := c % 256) (b := b.toNat) (by omega) (by omega)
    have hx2 : c % 256 ^^^ b.toNat < 2 ^ 32 := Nat.xor_lt_two_pow (by omega) (by omega)
    simp only [RS0, RS1, RS2, RS3, RS4, RS5, e1, s1, a1, ixS_str hx, cvI_int, q1, x1]
    refine (turned_spec w2 hx2).mono ?_
    rintro _ _ ⟨rfl, rfl⟩
    have x2 := xor_u32 (TypeDesc.int IntKind.u32) (a := c / 256) (b := crcT 8 (c % 256 ^^^ b.toNat)) (by omega) (crcT_lt 8 hx2)
    simp only [RS0, RS1, RS2, RS3, RS4, RS5, x2, e2]
    exact ⟨⟨i + 1, by rw [hst], by omega, (by trivial)⟩, by simp only [nth_1]; omega⟩
  · have hie : i = l.length := by omega
    subst hie
    have e1 : decide (((l.length : Nat) : Int) < (l.length : Int)) = false := by simp
    rw [List.take_length] at hc ⊢
    simp only [RS0, RS1, RS2, RS3, RS4, RS5, e1, not_u32 hc]
    exact ⟨(by trivial), (by trivial)⟩
/-! ### Numbers as bytes -/
theorem take_set_one (l : Bs) {i : Nat} {b : UInt8} (h : l[i]? = some b) (n : Nat) (hn : i < n) : (l.take i ++ List.replicate (n - i) (0 : UInt8)).set i b = l.take (i + 1) ++ List.replicate (n - (i + 1)) (0 : UInt8) := by
  have hl := (List.getElem?_eq_some_iff.1 h).1
  rw [List.set_append_right _ _ (by rw [List.length_take]; omega), List.length_take, Nat.min_eq_left (by omega), Nat.sub_self]
  rw [show n - i = (n - (i + 1)) + 1 by omega, List.replicate_succ, List.set_cons_zero, List.take_add_one, h]
  simp
theorem big_spec (w : World) {n : Int} (hn : In n) (k : Int) : Cl Tryz.prog 115 [iv n, iv k] w fun r w' => r = stv (bigB n k) ∧ Fm (fun _ => False) w w' := by
  refine c115 ?_; unfold T115
  unfold bigB
  cases h1 : decide (k < 1) with
  | true =>
    simp only [RS0, RS1, RS2, RS3, RS4, RS5, h1, Bool.true_or, cond_true]
    exact ⟨(by trivial), Fm.refl _ _⟩
  | false =>
  cases h2 : decide (8 < k) with
  | true =>
    simp only [RS0, RS1, RS2, RS3, RS4, RS5, h1, h2, Bool.true_or, Bool.or_true, cond_true]
    exact ⟨(by trivial), Fm.refl _ _⟩
  | false =>
  cases h3 : decide (n < 0) with
  | true =>
    simp only [RS0, RS1, RS2, RS3, RS4, RS5, h1, h2, h3, Bool.true_or, Bool.or_true, cond_true]
    exact ⟨(by trivial), Fm.refl _ _⟩
  | false =>
  rw [decide_eq_false_iff_not] at h1 h2 h3
  obtain ⟨x, rfl⟩ := Int.eq_ofNat_of_zero_le (show 0 ≤ n by omega)
  obtain ⟨m, rfl⟩ := Int.eq_ofNat_of_zero_le (show 0 ≤ k by omega)
  have g1 : decide ((Int.ofNat m) < 1) = false := by rw [decide_eq_false_iff_not]; exact h1
  have g2 : decide (8 < (Int.ofNat m)) = false := by rw [decide_eq_false_iff_not]; exact h2
  have g3 : decide ((Int.ofNat x) < 0) = false := by rw [decide_eq_false_iff_not]; exact h3
  have hm : 1 ≤ m ∧ m ≤ 8 := by omega
  have hx : x ≤ 9223372036854775807 := by have := hn.2; omega
  have g1' : decide ((m : Int) < 1) = false := g1
  have g2' : decide (8 < (m : Int)) = false := g2
  have g3' : decide ((x : Int) < 0) = false := g3
  simp only [RS0, RS1, RS2, RS3, RS4, RS5, g1', g2', g3', Bool.or_false, cond_false, Int.toNat_natCast]
  refine RunS_ok (BRow.make B38 w m (by omega)) ?_
  have hb1 := alloc_new w (.cells (bc (List.replicate m 0)).toArray 5)
  have hf1 := Fm.alloc (fun _ => False) w (.cells (bc (List.replicate m 0)).toArray 5)
  have hg := Nat.le_refl w.heap.size
  generalize hge : w.heap.size = g at hb1
  generalize w.alloc (.cells (bc (List.replicate m 0)).toArray 5) = w1 at hb1 hf1
  replace hb1 : BRow w1 g 5 (List.replicate m 0) := hb1
  simp only [RS0, RS1, RS2, RS3, RS4, RS5]
  refine ⟨fun vs w2 => ∃ i : Nat, vs = [iv i] ∧ i ≤ m ∧ BRow w2 g 5 ((beN m x).take i ++ List.replicate (m - i) 0) ∧ Fm (fun _ => False) w w2, fun vs _ => (m - nth vs 0).toNat, ⟨0, rfl, by omega, by simpa using hb1, hf1⟩, ?_⟩
  rintro _ w2 ivv ⟨i, hvs, hi, hb2, hf2⟩
  cases hvs
  by_cases hlt : i < m
  · have e1 : decide ((i : Int) < (m : Int)) = true := by rw [decide_eq_true_eq]; omega
    have e2 : IntKind.i64.wrap ((i : Int) + 1) = ((i + 1 : Nat) : Int) := by rw [wrap_id] <;> omega
    have e3 : IntKind.i64.wrap ((m : Int) - 1) = ((m - 1 : Nat) : Int) := by rw [wrap_id] <;> omega
    have e4 : IntKind.i64.wrap (((m - 1 : Nat) : Int) - i) = ((m - 1 - i : Nat) : Int) := by rw [wrap_id] <;> omega
    have e5 : IntKind.i64.wrap (8 * ((m - 1 - i : Nat) : Int)) = ((8 * (m - 1 - i) : Nat) : Int) := by rw [wrap_id] <;> omega
    have e6 := shr_nat x (8 * (m - 1 - i)) (by omega) (TypeDesc.int IntKind.i64) .i64
    have hget := beN_get m x i hlt
    have hpw : x / 2 ^ (8 * (m - 1 - i)) = x / 256 ^ (m - 1 - i) := by rw [Nat.pow_mul]
    have hval : IntKind.u8.wrap ((x / 2 ^ (8 * (m - 1 - i)) : Nat) : Int) = (((UInt8.ofNat (x / 256 ^ (m - 1 - i) % 256)).toNat : Nat) : Int) := by
      rw [wrap_u8_mod, ofN_toNat (by omega), hpw]
    generalize UInt8.ofNat (x / 256 ^ (m - 1 - i) % 256) = b at hget hval
    have hix : ixV 1 (.slice (some ⟨g, 0, none⟩) m m) (iv i) = some (.pointer (some ⟨g, i, none⟩)) := by rw [ixV_at hlt, add_none]; simp
    simp only [RS0, RS1, RS2, RS3, RS4, RS5, e1, e3, e4, e5, e6, cvI_int, hval, hix]
    refine BRow.put hb2 (b := b) (by simp [beN_len]; omega) ?_
    intro w3 hb3 hs3 hf3
    rw [take_set_one _ hget m hlt] at hb3
    simp only [RS0, RS1, RS2, RS3, RS4, RS5, e2]
    exact ⟨⟨i + 1, rfl, by omega, hb3, Fm.own hf2 hf3 (by rintro y rfl; omega)⟩, by simp only [nth_0]; omega⟩
  · obtain rfl : i = m := by omega
    have e1 : decide ((i : Int) < (i : Int)) = false := by simp
    have hfull : (beN i x).take i ++ List.replicate (i - i) (0 : UInt8) = beN i x := by rw [Nat.sub_self, List.take_of_length_le (by rw [beN_len]; exact Nat.le_refl _)]; simp
    rw [hfull] at hb2
    simp only [RS0, RS1, RS2, RS3, RS4, RS5, e1]
    refine RunS_ok (BRow.conv B38 hb2 (o := 0) (n := i) (by rw [beN_len]; omega) i) ?_
    refine ⟨?_, hf2⟩
    rw [List.drop_zero, List.take_of_length_le (by rw [beN_len]; exact Nat.le_refl _)]
theorem foldl_take' {α β : Type} (f : β → α → β) (b : β) {l : List α} {i : Nat} {x : α} (hi : l[i]? = some x) : (l.take (i + 1)).foldl f b = f ((l.take i).foldl f b) x := by
  rw [List.take_add_one, hi, List.foldl_append]; rfl
theorem of_spec (w : World) (l : Bs) (hl : l.length ≤ 9223372036854775806) : Cl Tryz.prog 79 [stv l] w fun r w' => r = iv (ofN l : Nat) ∧ w' = w := by
  refine c79 ?_; unfold T79
  simp only [RS0, RS1, RS2, RS3, RS4, RS5, str_size]
  refine ⟨fun vs w2 => ∃ i : Nat, vs = [qv (of64 (l.take i)), iv i] ∧ i ≤ l.length ∧ w2 = w, fun vs _ => (l.length - nth vs 1).toNat, ⟨0, rfl, by omega, rfl⟩, ?_⟩
  rintro _ w2 cv ivv ⟨i, hvs, hi, rfl⟩
  cases hvs
  have hc : of64 (l.take i) < 2 ^ 64 := by rw [of64_eq]; omega
  by_cases hlt : i < l.length
  · have e1 : decide ((i : Int) < (l.length : Int)) = true := by rw [decide_eq_true_eq]; omega
    have e2 : IntKind.i64.wrap ((i : Int) + 1) = ((i + 1 : Nat) : Int) := by rw [wrap_id] <;> omega
    have hx : l[i]? = some l[i] := List.getElem?_eq_getElem hlt
    generalize l[i] = b at hx
    have hst : of64 (l.take (i + 1)) = (of64 (l.take i) * 256 + b.toNat) % 2 ^ 64 := foldl_take' _ _ hx
    generalize of64 (l.take i) = c at hc hst
    have hb := b.toNat_lt
    have q1 : IntKind.u64.wrap (b.toNat : Int) = (b.toNat : Int) := wrap_u64 (by omega)
    have o1 := or_u64 (TypeDesc.int IntKind.u64) (a := c * 256 % 2 ^ 64) (b := b.toNat) (by omega) (by omega) (by omega)
    simp only [RS0, RS1, RS2, RS3, RS4, RS5, e1, shl_u64, ixS_str hx, cvI_int, q1, o1, e2]
    refine ⟨⟨i + 1, ?_, by omega, (by trivial)⟩, by simp only [nth_1]; omega⟩
    rw [hst]
    congr 3
    omega
  · have hie : i = l.length := by omega
    subst hie
    have e1 : decide (((l.length : Nat) : Int) < (l.length : Int)) = false := by simp
    rw [List.take_length] at hc ⊢
    have q1 : IntKind.i64.wrap ((of64 l % 2 ^ 63 : Nat) : Int) = ((of64 l % 2 ^ 63 : Nat) : Int) := wrap_nat (by omega)
    simp only [RS0, RS1, RS2, RS3, RS4, RS5, e1, top_u64 _ hc, cvI_int, q1]
    refine ⟨?_, (by trivial)⟩
    rw [ofN, of64_eq]
    congr 2
    omega
end Go.Proofs.YthbngnlmgplijaaGreatDoor

namespace Go.Proofs
open Go.RowKit Go.Shelf
set_option linter.unusedVariables false
set_option linter.unusedSimpArgs false
set_option linter.unusedSectionVars false
def Tryz.lays105_ren : Go.Shelf.Ren := ⟨fun | 105 => 95 | 212 => 173 | 99 => 174 | 165 => 175 | 166 => 176 | 170 => 177 | 169 => 178 | 263 => 208 | 264 => 209 | 206 => 210 | 240 => 211 | 241 => 212 | 276 => 223 | 277 => 224 | n => n, fun | 9 => 9 | 3 => 3 | 4 => 4 | 20 => 20 | 0 => 0 | 46 => 179 | 109 => 197 | 5 => 5 | 72 => 202 | 76 => 206 | 51 => 110 | 146 => 230 | 53 => 178 | 148 => 232 | 70 => 200 | 37 => 123 | 75 => 205 | 127 => 234 | 164 => 244 | 80 => 208 | n => n, fun | n => n⟩
theorem Tryz.lays105 : Go.Proofs.Lays.n105 Tryz.prog Tryz.lays105_ren := {
  mixed := by kernel_rfl
  f99 := Tryz.func174.trans (congrArg some (by kernel_rfl))
  f105 := Tryz.func95.trans (congrArg some (by kernel_rfl))
  f165 := Tryz.func175.trans (congrArg some (by kernel_rfl))
  f166 := Tryz.func176.trans (congrArg some (by kernel_rfl))
  f169 := Tryz.func178.trans (congrArg some (by kernel_rfl))
  f170 := Tryz.func177.trans (congrArg some (by kernel_rfl))
  f206 := Tryz.func210.trans (congrArg some (by kernel_rfl))
  f212 := Tryz.func173.trans (congrArg some (by kernel_rfl))
  f240 := Tryz.func211.trans (congrArg some (by kernel_rfl))
  f241 := Tryz.func212.trans (congrArg some (by kernel_rfl))
  f263 := Tryz.func208.trans (congrArg some (by kernel_rfl))
  f264 := Tryz.func209.trans (congrArg some (by kernel_rfl))
  f276 := Tryz.func223.trans (congrArg some (by kernel_rfl))
  f277 := Tryz.func224.trans (congrArg some (by kernel_rfl))
  t0 := Tryz.underlying0
  a0 := Tryz.isAgg0
  z0 := Tryz.sizeOf0
  v0 := Tryz.zeroValue0
  t3 := Tryz.underlying3
  a3 := Tryz.isAgg3
  z3 := Tryz.sizeOf3
  v3 := Tryz.zeroValue3
  t4 := Tryz.underlying4
  a4 := Tryz.isAgg4
  z4 := Tryz.sizeOf4
  v4 := Tryz.zeroValue4
  t5 := Tryz.underlying5
  a5 := Tryz.isAgg5
  z5 := Tryz.sizeOf5
  v5 := Tryz.zeroValue5
  t9 := Tryz.underlying9
  a9 := Tryz.isAgg9
  z9 := Tryz.sizeOf9
  v9 := Tryz.zeroValue9
  t20 := Tryz.underlying20
  a20 := Tryz.isAgg20
  z20 := Tryz.sizeOf20
  v20 := Tryz.zeroValue20
  t37 := Tryz.underlying123
  a37 := Tryz.isAgg123
  z37 := Tryz.sizeOf123
  v37 := Tryz.zeroValue123
  t46 := Tryz.underlying179
  a46 := Tryz.isAgg179
  z46 := Tryz.sizeOf179
  v46 := Tryz.zeroValue179
  t51 := Tryz.underlying110
  a51 := Tryz.isAgg110
  z51 := Tryz.sizeOf110
  v51 := Tryz.zeroValue110
  t53 := Tryz.underlying178
  a53 := Tryz.isAgg178
  z53 := Tryz.sizeOf178
  v53 := Tryz.zeroValue178
  t70 := Tryz.underlying200
  a70 := Tryz.isAgg200
  z70 := Tryz.sizeOf200
  v70 := Tryz.zeroValue200
  t72 := Tryz.underlying202
  a72 := Tryz.isAgg202
  z72 := Tryz.sizeOf202
  v72 := Tryz.zeroValue202
  t75 := Tryz.underlying205
  a75 := Tryz.isAgg205
  z75 := Tryz.sizeOf205
  v75 := Tryz.zeroValue205
  t76 := Tryz.underlying206
  a76 := Tryz.isAgg206
  z76 := Tryz.sizeOf206
  v76 := Tryz.zeroValue206
  t109 := Tryz.underlying197
  a109 := Tryz.isAgg197
  z109 := Tryz.sizeOf197
  v109 := Tryz.zeroValue197
  t127 := Tryz.underlying234
  a127 := Tryz.isAgg234
  z127 := Tryz.sizeOf234
  v127 := Tryz.zeroValue234
  t146 := Tryz.underlying230
  a146 := Tryz.isAgg230
  z146 := Tryz.sizeOf230
  v146 := Tryz.zeroValue230
  t148 := Tryz.underlying232
  a148 := Tryz.isAgg232
  z148 := Tryz.sizeOf232
  v148 := Tryz.zeroValue232
  t164 := Tryz.underlying244
  a164 := Tryz.isAgg244
  z164 := Tryz.sizeOf244
  v164 := Tryz.zeroValue244 }
def Tryz.lays160_ren : Go.Shelf.Ren := ⟨fun | 160 => 117 | 232 => 182 | 231 => 181 | 227 => 183 | 234 => 185 | 233 => 184 | 236 => 187 | 235 => 186 | 228 => 214 | 271 => 217 | 151 => 216 | 197 => 215 | 120 => 227 | 152 => 226 | 260 => 225 | 137 => 240 | 119 => 241 | 224 => 242 | 225 => 243 | 217 => 250 | 266 => 252 | n => n, fun | 9 => 9 | 4 => 4 | 3 => 3 | 5 => 5 | 117 => 213 | 116 => 212 | 0 => 0 | 124 => 216 | 21 => 21 | 105 => 236 | 46 => 179 | 119 => 256 | 139 => 259 | 138 => 258 | n => n, fun | 3 => 1 | 4 => 2 | n => n⟩
theorem Tryz.lays160 : Go.Proofs.Lays.n160 Tryz.prog Tryz.lays160_ren := {
  mixed := by kernel_rfl
  f119 := Tryz.func241.trans (congrArg some (by kernel_rfl))
  f120 := Tryz.func227.trans (congrArg some (by kernel_rfl))
  f137 := Tryz.func240.trans (congrArg some (by kernel_rfl))
  f151 := Tryz.func216.trans (congrArg some (by kernel_rfl))
  f152 := Tryz.func226.trans (congrArg some (by kernel_rfl))
  f160 := Tryz.func117.trans (congrArg some (by kernel_rfl))
  f197 := Tryz.func215.trans (congrArg some (by kernel_rfl))
  f217 := Tryz.func250.trans (congrArg some (by kernel_rfl))
  f224 := Tryz.func242.trans (congrArg some (by kernel_rfl))
  f225 := Tryz.func243.trans (congrArg some (by kernel_rfl))
  f227 := Tryz.func183.trans (congrArg some (by kernel_rfl))
  f228 := Tryz.func214.trans (congrArg some (by kernel_rfl))
  f231 := Tryz.func181.trans (congrArg some (by kernel_rfl))
  f232 := Tryz.func182.trans (congrArg some (by kernel_rfl))
  f233 := Tryz.func184.trans (congrArg some (by kernel_rfl))
  f234 := Tryz.func185.trans (congrArg some (by kernel_rfl))
  f235 := Tryz.func186.trans (congrArg some (by kernel_rfl))
  f236 := Tryz.func187.trans (congrArg some (by kernel_rfl))
  f260 := Tryz.func225.trans (congrArg some (by kernel_rfl))
  f266 := Tryz.func252.trans (congrArg some (by kernel_rfl))
  f271 := Tryz.func217.trans (congrArg some (by kernel_rfl))
  t0 := Tryz.underlying0
  a0 := Tryz.isAgg0
  z0 := Tryz.sizeOf0
  v0 := Tryz.zeroValue0
  t3 := Tryz.underlying3
  a3 := Tryz.isAgg3
  z3 := Tryz.sizeOf3
  v3 := Tryz.zeroValue3
  t4 := Tryz.underlying4
  a4 := Tryz.isAgg4
  z4 := Tryz.sizeOf4
  v4 := Tryz.zeroValue4
  t5 := Tryz.underlying5
  a5 := Tryz.isAgg5
  z5 := Tryz.sizeOf5
  v5 := Tryz.zeroValue5
  t9 := Tryz.underlying9
  a9 := Tryz.isAgg9
  z9 := Tryz.sizeOf9
  v9 := Tryz.zeroValue9
  t21 := Tryz.underlying21
  a21 := Tryz.isAgg21
  z21 := Tryz.sizeOf21
  v21 := Tryz.zeroValue21
  t46 := Tryz.underlying179
  a46 := Tryz.isAgg179
  z46 := Tryz.sizeOf179
  v46 := Tryz.zeroValue179
  t105 := Tryz.underlying236
  a105 := Tryz.isAgg236
  z105 := Tryz.sizeOf236
  v105 := Tryz.zeroValue236
  t116 := Tryz.underlying212
  a116 := Tryz.isAgg212
  z116 := Tryz.sizeOf212
  t117 := Tryz.underlying213
  a117 := Tryz.isAgg213
  z117 := Tryz.sizeOf213
  v117 := Tryz.zeroValue213
  t119 := Tryz.underlying256
  a119 := Tryz.isAgg256
  z119 := Tryz.sizeOf256
  t124 := Tryz.underlying216
  a124 := Tryz.isAgg216
  z124 := Tryz.sizeOf216
  v124 := Tryz.zeroValue216
  t138 := Tryz.underlying258
  a138 := Tryz.isAgg258
  z138 := Tryz.sizeOf258
  v138 := Tryz.zeroValue258
  t139 := Tryz.underlying259
  a139 := Tryz.isAgg259
  z139 := Tryz.sizeOf259
  v139 := Tryz.zeroValue259
  g3 := by kernel_rfl
  g4 := by kernel_rfl }

theorem Tryz.bldExtra : Builder.Extra Tryz.prog Tryz.lays105_ren where
  sizeBuilder := by kernel_rfl
  liesBuilder := by kernel_rfl
  t5 := Tryz.lays105.t5
  a5 := Tryz.lays105.a5
  z5 := Tryz.lays105.z5
  v5 := Tryz.lays105.v5
  infoByte := by kernel_rfl
  cellsByte := by kernel_rfl
  sizeByte := by kernel_rfl
  neB5 := by decide

namespace YthbngnlmgplijaaGreatDoor
open Go.Al Go.Proofs
set_option maxRecDepth 100000

theorem cl_of {g : FuncId} {args : List Value} {w : World} {R : Ending → World → Prop} {k : KV} (h : Calls Tryz.prog g args.toArray w R) (hk : ∀ e w', R e w' → ∃ v, e = .returned v ∧ k v w') : Cl Tryz.prog g args w k :=
  ⟨Calls.mono h fun e w' he => by obtain ⟨v, rfl, hv⟩ := hk e w' he; exact hv⟩
theorem Fm.of_belowB {B : Nat} {w w' : World} (h : Below B w w') : Fm (fun x => B ≤ x) w w' := ⟨h.os, h.tape, h.output, h.size, fun b hb hs => h.block b (by omega)⟩
/-! ### A builder -/
/-- A builder of the call's own, in block b, that holds l. -/
def Bld (w : World) (b : Nat) (l : Bs) : Prop := Lib.IsBuilderF 202 5 b b (bc l) w
theorem Bld.lt {w : World} {b : Nat} {l : Bs} (h : Bld w b l) : b < w.heap.size := by
  rcases h with h | h <;> exact h.lt
theorem Bld.new {w : World} {b : Nat} (h : w.heap[b]? = some (.cells #[.pointer none, .slice none 0 0] 202)) : Bld w b [] :=
  Lib.IsBuilderF.of (.inl ⟨Nat.le_refl _, _, h, World.ownsRow_nil _ _ _ _, by simp [Value.ownBlock]⟩)
theorem Bld.keep {w w' : World} {b : Nat} {l : Bs} (h : Bld w b l) (hf : Fm (fun _ => False) w w') : Bld w' b l := by
  have key : ∀ p, Lib.BuilderAtF 202 5 b b p (bc l) w → Lib.BuilderAtF 202 5 b b p (bc l) w' := by
    rintro p ⟨h1, v, h2, h3, h4⟩
    refine ⟨h1, v, hf.heap h2 (fun e => e), ?_, h4⟩
    obtain ⟨g1, g2⟩ := h3
    refine ⟨g1, ?_⟩
    rcases g2 with g2 | ⟨g, cap, cur, fz, r1, r2, r3, r4⟩
    · exact .inl g2
    · exact .inr ⟨g, cap, cur, fz, r1, r2, hf.heap r3 (fun e => e), r4⟩
  rcases h with h | h
  · exact .inl (key _ h)
  · exact .inr (key _ h)
theorem bwrite_spec {w : World} {b : Nat} {l : Bs} (h : Bld w b l) (s : Bs) (hlen : l.length + s.length ≤ 140737488355328) : Cl Tryz.prog 176 [pv b, stv s] w fun _ w' => Bld w' b (l ++ s) ∧ Fm (fun x => b ≤ x) w w' := by
  have c : Calls Tryz.prog 176 #[pv b, stv s] w fun e w' => e = .returned (.tuple #[.int .i64 (str s).size, .nilIface]) ∧ (Lib.BuilderAtF 202 5 b b (pv b) (bc l ++ Lib.strCells (str s)) w' ∧ Below b w w' ∧ Lib.OthersKept 5 (some b) w w') :=
    Any.Builder_WriteString_k (ρ := Tryz.lays105_ren) { Tryz.lays105 with } Tryz.bldExtra b b (bc l) (str s) w h (by rw [bc_len, str_size]; exact hlen) (Nat.le_of_lt h.lt)
  refine cl_of c fun e w' ⟨h1, h2, h3, _⟩ => ⟨_, h1, ?_, Fm.of_belowB h3⟩
  rw [show Lib.strCells (str s) = bc s from rfl, ← bc_append] at h2
  exact .inr h2
theorem blen_spec {w : World} {b : Nat} {l : Bs} (h : Bld w b l) : Cl Tryz.prog 177 [pv b] w fun v w' => v = iv l.length ∧ w' = w := by
  have c : Calls Tryz.prog 177 #[pv b] w fun e w' => e = .returned (.int .i64 (bc l).length) ∧ w' = w :=
    Any.Builder_Len_f (ρ := Tryz.lays105_ren) { Tryz.lays105 with } b b (bc l) w h
  rw [bc_len] at c
  exact cl_of c fun e w' ⟨h1, h2⟩ => ⟨_, h1, rfl, h2⟩
theorem bstring_spec {w : World} {b : Nat} {l : Bs} (h : Bld w b l) : Cl Tryz.prog 178 [pv b] w fun v w' => v = stv l ∧ Bld w' b l ∧ Fm (fun x => b ≤ x) w w' := by
  have c : Calls Tryz.prog 178 #[pv b] w fun e w' => e = .returned (.string ⟨l.toArray⟩) ∧ (Lib.IsBuilderF 202 5 b b (Lib.byteCells l) w' ∧ Below b w w' ∧ Lib.OthersKept 5 (some b) w w') :=
    Any.Builder_String_any_k (ρ := Tryz.lays105_ren) { Tryz.lays105 with } Tryz.bldExtra b b l w h (Nat.le_of_lt h.lt)
  exact cl_of c fun e w' ⟨h1, h2, h3, _⟩ => ⟨_, h1, rfl, h2, Fm.of_belowB h3⟩

/-! ### Repeat, Trim -/
theorem repeat_spec (w : World) (n : Nat) (hn : n ≤ 140737488355328) : Cl Tryz.prog 95 [stv [0], iv n] w fun v w' => v = stv (zeros n) ∧ Fm (fun _ => False) w w' := by
  have c : Calls Tryz.prog 95 #[stv [0], iv n] w fun e w' => e = .returned (.string ⟨(Lib.repeatL (str [0]).data.toList n).toArray⟩) ∧ Below w.heap.size w w' :=
    Any.strings_Repeat (ρ := Tryz.lays105_ren) Tryz.lays105 Tryz.bldExtra (str [0]) n w (by omega) (by rw [str_size]; simpa using hn)
  have e : Lib.repeatL (str [0]).data.toList n = zeros n := by
    have := Lib.repeatL_replicate 0 1 n
    rw [Nat.mul_one] at this
    exact this
  rw [e] at c
  exact cl_of c fun e w' ⟨h1, h2⟩ => ⟨_, h1, rfl, Fm.of_below h2 _⟩
theorem dropWhile_nil : ∀ (l : Bs), l.dropWhile (· == (0 : UInt8)) = [] ↔ l = zeros l.length
  | [] => by simp [zeros]
  | b :: l => by
    rw [List.dropWhile_cons]
    cases hb : (b == (0 : UInt8)) with
    | true =>
      have : b = 0 := by simpa using hb
      simp only [if_true, dropWhile_nil l, List.length_cons, zeros, List.replicate_succ]
      rw [this]
      simp
    | false =>
      have : b ≠ 0 := by simpa using hb
      simp [zeros, List.replicate_succ, this]
theorem trim_nil (l : Bs) : Lib.trimB l 0 = [] ↔ l = zeros l.length := by
  unfold Lib.trimB Lib.trimLeftB Lib.trimRightB
  rw [dropWhile_nil]
  constructor
  · intro h
    have h2 : (l.reverse.dropWhile (· == (0 : UInt8))) = zeros (l.reverse.dropWhile (· == (0 : UInt8))).length := by
      have := congrArg List.reverse h
      rw [List.reverse_reverse] at this
      rw [this]; simp [zeros]
    cases hd : l.reverse.dropWhile (· == (0 : UInt8)) with
    | nil =>
      have := (dropWhile_nil l.reverse).1 hd
      have := congrArg List.reverse this
      rw [List.reverse_reverse] at this
      rw [this]; simp [zeros]
    | cons x t =>
      rw [hd] at h2
      have hx : x = 0 := by
        have := congrArg List.head? h2
        simp [zeros, List.replicate_succ] at this; exact this
      have := List.head?_dropWhile_not (p := (· == (0 : UInt8))) (l := l.reverse)
      rw [hd] at this
      simp [hx] at this
  · intro h
    have h2 : l.reverse = zeros l.reverse.length := by rw [h]; simp [zeros]
    rw [(dropWhile_nil l.reverse).2 h2]
    rfl
theorem trim_spec (w : World) (l : Bs) (hl : l.length ≤ 9223372036854775807) : Cl Tryz.prog 117 [stv l, stv [0]] w fun v w' => (∃ t, v = stv t ∧ (t = [] ↔ l = zeros l.length)) ∧ Fm (fun _ => False) w w' := by
  have c : Calls Tryz.prog 117 #[stv l, stv [0]] w fun e w' => e = .returned (.string ⟨(Lib.trimB (str l).data.toList 0).toArray⟩) ∧ (w' = w ∨ w' = w.drew) :=
    Any.strings_Trim_one (ρ := Tryz.lays160_ren) Tryz.lays160 (str l) 0 (by decide) w (by rw [str_size]; exact hl)
  refine cl_of c fun e w' ⟨h1, h2⟩ => ⟨_, h1, ⟨_, rfl, trim_nil l⟩, ?_⟩
  rcases h2 with rfl | rfl
  · exact Fm.refl _ _
  · exact Fm.drew _ _

/-! ### Clone, Equal, Insert, Delete -/
theorem E22 : ElemT Tryz.prog 59 9 1 16 := elemT_of Tryz.underlying59 (by kernel_rfl)
theorem bs22e (w : World) : (Instr.buildSlice 59 0 #[]).run Tryz.prog w = .ok (.slice (some ⟨w.heap.size, 0, none⟩) 0 0) (w.alloc (.cells #[] 9)) := by kernel_rfl
theorem stv_one (xs : List Bs) : ∀ u ∈ xs.map stv, u.oneCell' = true := by
  intro u hu
  obtain ⟨x, _, rfl⟩ := List.mem_map.1 hu
  rfl
theorem clone_spec {w : World} {v : Value} {xs : List Bs} (h : CellsAt w v xs.length 1 (xs.map stv)) (hs : xs.length * 16 ≤ 140737488355328) : Cl Tryz.prog 106 [v] w fun r w' => w'.ownsRow w.heap.size 9 1 r xs.length (xs.map stv) ∧ Fm (fun _ => False) w w' := by
  refine c106 ?_; unfold T106
  obtain ⟨⟨a, c, hv, h1, h2, h3, h4⟩, hl⟩ := id h
  cases a with
  | none =>
    subst hv
    obtain ⟨e1, e2⟩ := h3 rfl
    have e3 : binV (TypeDesc.slice 9) .eql (.slice none xs.length c) (.slice none 0 0) = some (.bool true) := rfl
    simp only [RS0, RS1, RS2, RS3, RS4, RS5, e3]
    have : xs = [] := List.eq_nil_of_length_eq_zero e1
    subst this
    exact ⟨World.ownsRow_nil _ _ _ _, Fm.refl _ _⟩
  | some ad =>
    subst hv
    have e3 : binV (TypeDesc.slice 9) .eql (.slice (some ad) xs.length c) (.slice none 0 0) = some (.bool false) := rfl
    simp only [RS0, RS1, RS2, RS3, RS4, RS5, e3]
    refine RunS_ok (bs22e w) ?_
    have ho2 := own_alloc (w := w) (e := 9) (l := []) (by simp [maxLen]) (Nat.le_refl _)
    have hf2 := Fm.alloc (fun _ => False) w (.cells #[] 9)
    replace ho2 : (w.alloc (.cells #[] 9)).ownsRow w.heap.size 9 1 (.slice (some ⟨w.heap.size, 0, none⟩) 0 0) 0 [] := ho2
    generalize w.alloc (.cells #[] 9) = w2 at ho2 hf2
    obtain ⟨lv, w3, hr3, ho3, hf3⟩ := append_srcO E22 (by omega) ho2 (h.keep hf2 (fun _ _ e => e)) (stv_one xs) 59 (by unfold maxLen; omega) (by omega) hf2.size
    refine RunS_ok hr3 ?_
    rw [Nat.zero_add, List.nil_append] at ho3
    exact ⟨ho3, Fm.own hf2 hf3 (fun y hy => by have := own_lt ho2 y hy; omega)⟩
theorem equal_spec {w : World} {v u : Value} {xs ys : List Bs} (h : CellsAt w v xs.length 1 (xs.map stv)) (k : CellsAt w u ys.length 1 (ys.map stv)) : Cl Tryz.prog 207 [v, u] w fun r w' => r = .bool (decide (xs = ys)) ∧ Fm (fun _ => False) w w' := by
  have hlt := h.lt
  unfold maxLen at hlt
  refine c207 ?_; unfold T207
  simp only [RS0, RS1, RS2, RS3, RS4, RS5, h.lenV, k.lenV, bne_dec]
  by_cases hl : xs.length = ys.length
  · rw [show decide ((xs.length : Int) = (ys.length : Int)) = true by rw [decide_eq_true_eq]; omega]
    simp only [RS0, RS1, RS2, RS3, RS4, RS5, h.lenV]
    refine ⟨fun vs w2 => ∃ i : Nat, vs = [iv i] ∧ i ≤ xs.length ∧ xs.take i = ys.take i ∧ Fm (fun _ => False) w w2, fun vs _ => (xs.length - nth vs 0).toNat, ⟨0, rfl, by omega, rfl, Fm.refl _ _⟩, ?_⟩
    rintro _ w2 ivv ⟨i, hvs, hi, heq, hf2⟩
    cases hvs
    by_cases hlt2 : i < xs.length
    · have e1 : decide ((i : Int) < (xs.length : Int)) = true := by rw [decide_eq_true_eq]; omega
      have e2 : IntKind.i64.wrap ((i : Int) + 1) = ((i + 1 : Nat) : Int) := by rw [wrap_id] <;> omega
      have hx : xs[i]? = some xs[i] := List.getElem?_eq_getElem hlt2
      have hy : ys[i]? = some ys[i] := List.getElem?_eq_getElem (by omega)
      generalize xs[i] = x at hx
      generalize ys[i] = y at hy
      have hf3 := Fm.drew (fun _ => False) w2
      obtain ⟨ad, hix, _, hc⟩ := h.at1 (i := i) (x := stv x) (by rw [List.getElem?_map, hx]; rfl) .i64
      obtain ⟨ad', hix', _, hc'⟩ := k.at1 (i := i) (x := stv y) (by rw [List.getElem?_map, hy]; rfl) .i64
      have hc2 := hf2.cell' hc (fun e => e)
      have hc2' := hf2.cell' hc' (fun e => e)
      have htk : decide (x = y) = true → xs.take (i + 1) = ys.take (i + 1) := by
        intro e
        have e : x = y := by simpa using e
        rw [List.take_add_one, List.take_add_one, heq, hx, hy, e]
      simp only [RS0, RS1, RS2, RS3, RS4, RS5, e1, hix, hc2, true_and, hix', hc2', str_inj]
      cases hd : decide (x = y) with
      | true =>
        simp only [RS0, RS1, RS2, RS3, RS4, RS5, e2]
        exact ⟨⟨i + 1, rfl, by omega, htk hd, Fmf hf2 hf3⟩, by simp only [nth_0]; omega⟩
      | false =>
        simp only [RS0, RS1, RS2, RS3, RS4, RS5]
        refine ⟨?_, Fmf hf2 hf3⟩
        congr 1; symm
        rw [decide_eq_false_iff_not] at hd ⊢
        rintro rfl
        rw [hx] at hy; cases hy
        exact hd rfl
    · have hie : i = xs.length := by omega
      subst hie
      have e1 : decide (((xs.length : Nat) : Int) < (xs.length : Int)) = false := by simp
      rw [List.take_length, List.take_of_length_le (by omega)] at heq
      simp only [RS0, RS1, RS2, RS3, RS4, RS5, e1]
      refine ⟨?_, hf2⟩
      congr 1; symm; simpa using heq
  · rw [show decide ((xs.length : Int) = (ys.length : Int)) = false by rw [decide_eq_false_iff_not]; omega]
    simp only [RS0, RS1, RS2, RS3, RS4, RS5]
    refine ⟨?_, Fm.refl _ _⟩
    congr 1; symm
    rw [decide_eq_false_iff_not]
    rintro rfl
    exact hl rfl

end YthbngnlmgplijaaGreatDoor
end Go.Proofs

namespace Go.Proofs.YthbngnlmgplijaaGreatDoor
open Go.Al Go.Proofs
set_option linter.unusedVariables false
set_option linter.unusedSimpArgs false
set_option linter.unusedSectionVars false
set_option maxRecDepth 100000

/-! ### A page in the heap -/
def pcs (p : Pg) (v : Value) : Array Value := #[iv p.lsn, iv p.kind, iv p.level, iv p.right, stv p.high, v]
structure PgAs (w : World) (cs : Array Value) (p : Pg) : Prop where
  ex : ∃ v, cs = pcs p v ∧ v.oneCell' = true ∧ CellsAt w v p.items.length 1 (p.items.map stv)
  small : ∀ x ∈ p.items, x.length ≤ 140737488355328
  ins : In p.lsn ∧ In p.kind ∧ In p.level ∧ In p.right ∧ p.high.length ≤ 140737488355328 ∧ p.items.length * 16 ≤ 140737488355328
theorem PgAs.keep {w w' : World} {cs : Array Value} {p : Pg} (h : PgAs w cs p) (hf : Fm (fun _ => False) w w') : PgAs w' cs p := by
  obtain ⟨v, h1, h2, h3⟩ := h.ex
  exact ⟨⟨v, h1, h2, h3.keep hf (fun _ _ e => e)⟩, h.small, h.ins⟩
theorem PgAs.size {w : World} {cs : Array Value} {p : Pg} (h : PgAs w cs p) : cs.size = 6 := by obtain ⟨v, rfl, _⟩ := h.ex; rfl
theorem PgAs.one {w : World} {cs : Array Value} {p : Pg} (h : PgAs w cs p) : ∀ u ∈ cs.toList, u.oneCell' = true := by
  obtain ⟨v, rfl, h2, _⟩ := h.ex
  intro u hu
  simp [pcs] at hu
  rcases hu with rfl | rfl | rfl | rfl | rfl | rfl <;> first | rfl | assumption
theorem items_nil (w : World) : CellsAt w (.slice none 0 0) ([] : List Bs).length 1 (([] : List Bs).map stv) := ⟨⟨none, 0, rfl, Nat.le_refl _, by simp [maxLen], fun _ => ⟨rfl, rfl⟩, fun j u hj => by simp at hj⟩, rfl⟩
theorem pgAs0 (w : World) : PgAs w (pcs pg0 (.slice none 0 0)) pg0 := ⟨⟨_, rfl, rfl, items_nil w⟩, by simp [pg0], by simp [pg0, In]⟩
def PB (w : World) (g : Nat) (p : Pg) (v : Value) : Prop := w.heap[g]? = some (.cells (pcs p v) 61)
section
variable {S : Nat → Prop} {w w' : World} {g : Nat} {p : Pg} {v : Value}
theorem PB.keep (h : PB w g p v) (hf : Fm S w w') (hs : ¬ S g) : PB w' g p v := hf.heap h hs
theorem PB.c0 (h : PB w g p v) : w.cell? ⟨g, 0, none⟩ = some (iv p.lsn) := by rw [cell_at h]; rfl
theorem PB.c1 (h : PB w g p v) : w.cell? ⟨g, 1, none⟩ = some (iv p.kind) := by rw [cell_at h]; rfl
theorem PB.c2 (h : PB w g p v) : w.cell? ⟨g, 2, none⟩ = some (iv p.level) := by rw [cell_at h]; rfl
theorem PB.c3 (h : PB w g p v) : w.cell? ⟨g, 3, none⟩ = some (iv p.right) := by rw [cell_at h]; rfl
theorem PB.c4 (h : PB w g p v) : w.cell? ⟨g, 4, none⟩ = some (stv p.high) := by rw [cell_at h]; rfl
theorem PB.c5 (h : PB w g p v) : w.cell? ⟨g, 5, none⟩ = some v := by rw [cell_at h]; rfl
theorem PB.all (h : PB w g p v) : cellsV w ⟨g, 0, none⟩ 6 = some (.agg (pcs p v)) := cellsV_blk h rfl
theorem PB.lt (h : PB w g p v) : g < w.heap.size := lt_of_heap h
end

/-! ### Sizes -/
theorem wrap_add2 (a b : Int) : IntKind.i64.wrap (IntKind.i64.wrap a + b) = IntKind.i64.wrap (a + b) := by
  unfold IntKind.wrap; simp [IntKind.bits, IntKind.signed]; omega
def pszF (p : Pg) (i : Nat) : Nat := (p.items.take i).foldl (fun n it => n + (2 + it.length)) (20 + p.high.length)
theorem pszF_full (p : Pg) : pszF p p.items.length = pSize p := by unfold pszF pSize; rw [List.take_length]
theorem pszF_succ (p : Pg) {i : Nat} {x : Bs} (h : p.items[i]? = some x) : pszF p (i + 1) = pszF p i + (2 + x.length) := foldl_take' _ _ h
theorem size_bound {w : World} {cs : Array Value} {p : Pg} (h : PgAs w cs p) (hn : p.items.length ≤ 255) : pSize p ≤ 40000000000000000 := by
  have key : ∀ (l : List Bs) (n : Nat), (∀ x ∈ l, x.length ≤ 140737488355328) → l.foldl (fun n it => n + (2 + it.length)) n ≤ n + l.length * 140737488355330 := by
    intro l
    induction l with
    | nil => intro n _; simp
    | cons x l ih =>
      intro n hx
      have := ih (n + (2 + x.length)) (fun y hy => hx y (List.mem_cons_of_mem _ hy))
      have := hx x (by simp)
      simp only [List.foldl_cons, List.length_cons]
      omega
  have := key p.items (20 + p.high.length) h.small
  have := h.ins
  unfold pSize
  omega
theorem size_spec {w : World} {cs : Array Value} {p : Pg} (h : PgAs w cs p) : Cl Tryz.prog 213 [.agg cs] w fun r w' => r = iv (IntKind.i64.wrap (pSize p)) ∧ Fm (fun _ => False) w w' := by
  obtain ⟨v, rfl, _, hc⟩ := h.ex
  have hi := h.ins
  have hlt := hc.lt
  unfold maxLen at hlt
  refine c213 ?_; unfold T213
  refine New_any ?_
  intro g w1 hg hs1 hw1 hf1
  replace hw1 : PB w1 g p v := hw1
  have e0 : IntKind.i64.wrap (20 + (p.high.length : Int)) = ((20 + p.high.length : Nat) : Int) := by rw [wrap_id] <;> omega
  have hlen := hc.lenV
  simp only [RS0, RS1, RS2, RS3, RS4, RS5, hw1.c4, str_size, e0, hw1.c5, hlen]
  refine ⟨fun vs w2 => ∃ i : Nat, vs = [iv (IntKind.i64.wrap (pszF p i : Nat)), iv i] ∧ i ≤ p.items.length ∧ w2 = w1, fun vs _ => (p.items.length - nth vs 1).toNat, ⟨0, by rw [show pszF p 0 = 20 + p.high.length by simp [pszF], wrap_id (by omega)]; rfl, by omega, rfl⟩, ?_⟩
  rintro _ w2 nv ivv ⟨i, hvs, hi2, rfl⟩
  cases hvs
  by_cases hl : i < p.items.length
  · have e1 : decide ((i : Int) < (p.items.length : Int)) = true := by rw [decide_eq_true_eq]; omega
    have e2 : IntKind.i64.wrap ((i : Int) + 1) = ((i + 1 : Nat) : Int) := by rw [wrap_id] <;> omega
    have hx : p.items[i]? = some p.items[i] := List.getElem?_eq_getElem hl
    have hxm : p.items[i] ∈ p.items := List.getElem_mem hl
    generalize p.items[i] = x at hx hxm
    have hxl := h.small x hxm
    obtain ⟨ad, hix, _, hcx⟩ := (hc.keep hf1 (fun _ _ e => e)).at1 (i := i) (x := stv x) (by rw [List.getElem?_map, hx]; rfl) .i64
    have e3 : IntKind.i64.wrap (2 + (x.length : Int)) = ((2 + x.length : Nat) : Int) := by rw [wrap_id] <;> omega
    have e4 : IntKind.i64.wrap (IntKind.i64.wrap (pszF p i : Nat) + ((2 + x.length : Nat) : Int)) = IntKind.i64.wrap (pszF p (i + 1) : Nat) := by
      rw [wrap_add2, pszF_succ p hx]; congr 1
    simp only [RS0, RS1, RS2, RS3, RS4, RS5, e1, hix, hcx, str_size, e3, e4, e2]
    exact ⟨⟨i + 1, rfl, by omega, (by trivial)⟩, by simp only [nth_1]; omega⟩
  · obtain rfl : i = p.items.length := by omega
    have e1 : decide (((p.items.length : Nat) : Int) < (p.items.length : Int)) = false := by simp
    simp only [RS0, RS1, RS2, RS3, RS4, RS5, e1]
    exact ⟨by rw [pszF_full], hf1⟩
def fitsB (p : Pg) : Bool := decide (p.items.length ≤ 255) && decide (pSize p ≤ 512)
theorem fits_spec {w : World} {cs : Array Value} {p : Pg} (h : PgAs w cs p) : Cl Tryz.prog 180 [.agg cs] w fun r w' => r = .bool (fitsB p) ∧ Fm (fun _ => False) w w' := by
  obtain ⟨v, hcs, _, hc⟩ := h.ex
  refine c180 ?_; unfold T180
  refine New_any ?_
  intro g w1 hg hs1 hw1 hf1
  have hb : PB w1 g p v := by rw [PB, ← hcs]; exact hw1
  have hall := hb.all
  rw [← hcs] at hall
  have hlen := hc.lenV
  have d1 : decide ((p.items.length : Int) ≤ 255) = decide (p.items.length ≤ 255) := by rw [decide_eq_decide]; omega
  unfold fitsB
  simp only [RS0, RS1, RS2, RS3, RS4, RS5, hb.c5, hlen, d1]
  cases hd : decide (p.items.length ≤ 255) with
  | false =>
    simp only [RS0, RS1, RS2, RS3, RS4, RS5, Bool.false_and]
    exact ⟨(by trivial), hf1⟩
  | true =>
    have hsb := size_bound h (by simpa using hd)
    simp only [RS0, RS1, RS2, RS3, RS4, RS5, hall]
    refine (size_spec (h.keep hf1)).mono ?_
    rintro _ w2 ⟨rfl, hf2⟩
    have d2 : decide (IntKind.i64.wrap (pSize p) ≤ 512) = decide (pSize p ≤ 512) := by rw [wrap_nat (by omega), decide_eq_decide]; omega
    simp only [RS0, RS1, RS2, RS3, RS4, RS5, d2, Bool.true_and]
    exact ⟨(by trivial), Fmf hf1 hf2⟩

end Go.Proofs.YthbngnlmgplijaaGreatDoor

namespace Go.Proofs.YthbngnlmgplijaaGreatDoor
open Go.Al Go.Proofs
set_option linter.unusedVariables false
set_option linter.unusedSimpArgs false
set_option linter.unusedSectionVars false
set_option maxRecDepth 100000

def rangeB (p : Pg) : Bool := decide (p.lsn < 0 ∨ p.level < 0 ∨ p.right < 0 ∨ p.kind < 1 ∨ 3 < p.kind ∨ 255 < p.level ∨ 4294967295 < p.right)
def longB (p : Pg) : Bool := decide (255 < p.high.length ∨ 255 < p.items.length ∨ 512 < pSize p)
theorem pErr_eq (p : Pg) : pErr p = bif rangeB p then 4 else bif longB p then 3 else 0 := rfl
def encR (p : Pg) : Value := .tuple #[stv (pEnc p).1, iv (pEnc p).2]
theorem encR_range {p : Pg} (h : rangeB p = true) : encR p = .tuple #[stv [], iv 4] := by
  have : pErr p = 4 := by rw [pErr_eq, h]; rfl
  unfold encR; rw [pEnc_bad (by rw [this]; decide), this]
theorem encR_long {p : Pg} (h : rangeB p = false) (h2 : longB p = true) : encR p = .tuple #[stv [], iv 3] := by
  have : pErr p = 3 := by rw [pErr_eq, h, h2]; rfl
  unfold encR; rw [pEnc_bad (by rw [this]; decide), this]
theorem pErr_zero {p : Pg} (h : rangeB p = false) (h2 : longB p = false) : pErr p = 0 := by rw [pErr_eq, h, h2]; rfl
theorem encR_ok {p : Pg} (h : pErr p = 0) : encR p = .tuple #[stv (beN 4 (crc (pText p)) ++ pText p), iv 0] := by unfold encR; rw [pEnc_ok h]
theorem fold_min3 (a b c : Int) : foldV0 min2V [iv a, iv b, iv c] = some (iv (if c < (if b < a then b else a) then c else (if b < a then b else a))) := rfl
theorem bigB_nn {n : Int} {k : Nat} (h0 : 0 ≤ n) (h1 : 1 ≤ k) (h8 : k ≤ 8) : bigB n (k : Int) = beN k n.toNat := by
  have := bigB_of (n := n.toNat) h1 h8
  rw [Int.toNat_of_nonneg h0] at this; exact this
theorem sadd {a b : Bs} (h : a.length + b.length ≤ 9223372036854775807) : binV TypeDesc.string .add (stv a) (stv b) = some (stv (a ++ b)) := binV_sadd _ a b h
theorem flat_take {l : List Bs} {i : Nat} {x : Bs} (h : l[i]? = some x) : (l.take (i + 1)).flatMap itB = (l.take i).flatMap itB ++ itB x := by
  rw [List.take_add_one, h, List.flatMap_append]; simp
theorem flat_le (l : List Bs) (i : Nat) : ((l.take i).flatMap itB).length ≤ (l.flatMap itB).length := by
  have : l.flatMap itB = (l.take i).flatMap itB ++ (l.drop i).flatMap itB := by rw [← List.flatMap_append, List.take_append_drop]
  rw [this, List.length_append]; omega
theorem crc_in (l : Bs) : In (crc l : Nat) ∧ IntKind.i64.wrap (crc l : Nat) = ((crc l : Nat) : Int) := by
  have := crc_lt l
  exact ⟨by unfold In; omega, wrap_nat (by omega)⟩

set_option maxHeartbeats 4000000 in
theorem encode_spec {w : World} {cs : Array Value} {p : Pg} (h : PgAs w cs p) : Cl Tryz.prog 103 [.agg cs] w fun r w' => r = encR p ∧ Fm (fun _ => False) w w' := by
  obtain ⟨v, rfl, hone, hc⟩ := h.ex
  have hin := h.ins
  have hclt := hc.lt
  unfold maxLen at hclt
  refine c103 ?_; unfold T103
  refine New_any ?_
  intro x1 w1 hx1 hs1 hw1 hf1
  replace hw1 : PB w1 x1 p v := hw1
  have hc1 := hc.keep hf1 (fun _ _ e => e)
  have hlen := hc.lenV
  refine Jn_at (fun vs w2 => vs = [.bool (rangeB p)] ∧ w2 = w1) ?_ ?_
  · rintro _ w2 ⟨rfl, rfl⟩ _
    refine ⟨_, rfl, ?_⟩
    cases hr : rangeB p with
    | true =>
      simp only [RS0, RS1, RS2, RS3, RS4, RS5]
      exact ⟨(encR_range hr).symm, hf1⟩
    | false =>
    simp only [RS0, RS1, RS2, RS3, RS4, RS5]
    refine Jn_at (fun vs w3 => vs = [.bool (longB p)] ∧ PB w3 x1 p v ∧ Fm (fun _ => False) w2 w3) ?_ ?_
    · rintro _ w3 ⟨rfl, hw3, hf3⟩ _
      refine ⟨_, rfl, ?_⟩
      have hF3 := Fmf hf1 hf3
      cases hl : longB p with
      | true =>
        simp only [RS0, RS1, RS2, RS3, RS4, RS5]
        exact ⟨(encR_long hr hl).symm, hF3⟩
      | false =>
      simp only [RS0, RS1, RS2, RS3, RS4, RS5]
      have hok := pErr_zero hr hl
      obtain ⟨⟨b1, b2, b3, b4, b5, b6, b7⟩, b8, b9, b10⟩ := pErr_ok hok
      have hbl := pBody_len p
      refine New_any ?_
      intro b w4 hb hs4 hw4 hf4
      have hB4 := Bld.new hw4
      have hf5 := Fm.drew (fun _ => False) w4
      have hB5 := hB4.keep hf5
      have hP4 := hw3.keep hf4 (fun e => e)
      have hP5 : PB w4.drew x1 p v := hP4.keep hf5 (fun e => e)
      have hF5 : Fm (fun _ => False) w w4.drew := Fmf hF3 (Fmf hf4 hf5)
      have hxb : x1 < b ∧ w.heap.size ≤ b := by have := hw3.lt; have := hF3.size; omega
      generalize w4.drew = w5 at hB5 hP5 hF5
      have upB : ∀ {a c : World}, Fm (fun _ => False) a c → Fm (fun y => b ≤ y) a c := fun hf => hf.mono (fun _ _ e => e.elim)
      refine ⟨fun w => PB w x1 p v, hP5, ?_⟩
      simp only [RS0, RS1, RS2, RS3, RS4, RS5, hP4.c0, hP5.c0, true_and]
      refine ⟨iv p.kind, fun w6 h6 => ?_, ?_⟩
      · simp only [RS0, RS1, RS2, RS3, RS4, RS5, h6.c1]; trivial
      refine ⟨iv p.level, fun w6 h6 => ?_, ?_⟩
      · simp only [RS0, RS1, RS2, RS3, RS4, RS5, h6.c2]; trivial
      refine ⟨iv p.right, fun w6 h6 => ?_, ?_⟩
      · simp only [RS0, RS1, RS2, RS3, RS4, RS5, h6.c3]; trivial
      refine (big_spec w5 hin.1 8).mono ?_
      rintro _ w6 ⟨rfl, hf6⟩
      have hP6 := hP5.keep hf6 (fun e => e)
      refine ⟨hP6, ?_⟩
      refine (big_spec w6 hin.2.1 1).mono ?_
      rintro _ w7 ⟨rfl, hf7⟩
      have hP7 := hP6.keep hf7 (fun e => e)
      refine ⟨hP7, ?_⟩
      have g1 : bigB p.lsn 8 = beN 8 p.lsn.toNat := bigB_nn (k := 8) b1 (by omega) (by omega)
      have g2 : bigB p.kind 1 = beN 1 p.kind.toNat := bigB_nn (k := 1) (by omega) (by omega) (by omega)
      have g3 : bigB p.level 1 = beN 1 p.level.toNat := bigB_nn (k := 1) b2 (by omega) (by omega)
      have g4 : bigB p.right 4 = beN 4 p.right.toNat := bigB_nn (k := 4) b3 (by omega) (by omega)
      rw [g1, g2, sadd (by rw [beN_len, beN_len]; omega)]
      try simp only [RS0, RS1, RS2, RS3, RS4, RS5]
      refine (big_spec w7 hin.2.2.1 1).mono ?_
      rintro _ w8 ⟨rfl, hf8⟩
      have hP8 := hP7.keep hf8 (fun e => e)
      refine ⟨hP8, ?_⟩
      rw [g3, sadd (by simp only [List.length_append, beN_len]; omega)]
      try simp only [RS0, RS1, RS2, RS3, RS4, RS5]
      refine (big_spec w8 hin.2.2.2.1 4).mono ?_
      rintro _ w9 ⟨rfl, hf9⟩
      have hP9 := hP8.keep hf9 (fun e => e)
      rw [g4, sadd (by simp only [List.length_append, beN_len]; omega)]
      try simp only [RS0, RS1, RS2, RS3, RS4, RS5]
      have hF59 := Fmf (Fmf hf6 hf7) (Fmf hf8 hf9)
      have hB9 := hB5.keep hF59
      refine (bwrite_spec hB9 _ (by simp only [List.length_append, beN_len, List.length_nil]; omega)).mono ?_
      rintro _ w10 ⟨hB10, hf10⟩
      have hP10 := hP9.keep hf10 (by omega)
      have hf11 := Fm.drew (fun _ => False) w10
      have hB11 := hB10.keep hf11
      have hP11 := hP10.keep hf11 (fun e => e)
      have hF11 : Fm (fun _ => False) w w10.drew := Fmf (Fm.own (Fmf hF5 hF59) hf10 (fun y hy => by omega)) hf11
      generalize w10.drew = w11 at hB11 hP11 hF11
      refine ⟨fun w => PB w x1 p v, hP11, ?_⟩
      simp only [RS0, RS1, RS2, RS3, RS4, RS5, hP10.c5, hP11.c5, true_and, hlen]
      refine ⟨stv p.high, fun w6 h6 => ?_, ?_⟩
      · simp only [RS0, RS1, RS2, RS3, RS4, RS5, h6.c4]; trivial
      simp only [RS0, RS1, RS2, RS3, RS4, RS5, str_size]
      refine ⟨stv p.high, fun w6 h6 => ?_, ?_⟩
      · simp only [RS0, RS1, RS2, RS3, RS4, RS5, h6.c4]; trivial
      refine (big_spec w11 (n := (p.items.length : Nat)) (by unfold In; omega) 1).mono ?_
      rintro _ w12 ⟨rfl, hf12⟩
      have hP12 := hP11.keep hf12 (fun e => e)
      refine ⟨hP12, ?_⟩
      refine (big_spec w12 (n := (p.high.length : Nat)) (by unfold In; omega) 1).mono ?_
      rintro _ w13 ⟨rfl, hf13⟩
      have hP13 := hP12.keep hf13 (fun e => e)
      refine ⟨hP13, ?_⟩
      have g5 : bigB (p.items.length : Nat) 1 = beN 1 p.items.length := bigB_of (n := p.items.length) (w := 1) (by omega) (by omega)
      have g6 : bigB (p.high.length : Nat) 1 = beN 1 p.high.length := bigB_of (n := p.high.length) (w := 1) (by omega) (by omega)
      rw [g5, g6, sadd (by simp only [List.length_append, beN_len]; omega)]
      try simp only [RS0, RS1, RS2, RS3, RS4, RS5]
      rw [sadd (by simp only [List.length_append, beN_len]; omega)]
      try simp only [RS0, RS1, RS2, RS3, RS4, RS5]
      have hB13 := hB11.keep (Fmf hf12 hf13)
      refine (bwrite_spec hB13 _ (by simp only [List.length_append, beN_len, List.length_nil]; omega)).mono ?_
      rintro _ w14 ⟨hB14, hf14⟩
      have hP14 := hP13.keep hf14 (by omega)
      have hF14 : Fm (fun _ => False) w w14 := Fm.own (Fmf hF11 (Fmf hf12 hf13)) hf14 (fun y hy => by omega)
      have hhead : [] ++ (beN 8 p.lsn.toNat ++ beN 1 p.kind.toNat ++ beN 1 p.level.toNat ++ beN 4 p.right.toNat) ++ (beN 1 p.items.length ++ beN 1 p.high.length ++ p.high) = pHead p := by
        simp only [pHead, List.nil_append, List.append_assoc]
      rw [hhead] at hB14
      simp only [RS0, RS1, RS2, RS3, RS4, RS5, hP14.c5, hlen]
      refine ⟨fun vs w15 => ∃ i : Nat, vs = [iv i] ∧ i ≤ p.items.length ∧ Bld w15 b (pHead p ++ (p.items.take i).flatMap itB) ∧ PB w15 x1 p v ∧ Fm (fun _ => False) w w15, fun vs _ => (p.items.length - nth vs 0).toNat, ⟨0, rfl, by omega, by simpa using hB14, hP14, hF14⟩, ?_⟩
      rintro _ w15 ivv ⟨i, hvs, hi, hB15, hP15, hF15⟩
      cases hvs
      have hpl : (pBody p).length = (pHead p).length + (p.items.flatMap itB).length := by rw [pBody, List.length_append]
      by_cases hlt : i < p.items.length
      · have e1 : decide ((i : Int) < (p.items.length : Int)) = true := by rw [decide_eq_true_eq]; omega
        have e2 : IntKind.i64.wrap ((i : Int) + 1) = ((i + 1 : Nat) : Int) := by rw [wrap_id] <;> omega
        have hx : p.items[i]? = some p.items[i] := List.getElem?_eq_getElem hlt
        have hxm : p.items[i] ∈ p.items := List.getElem_mem hlt
        generalize p.items[i] = x at hx hxm
        have hxs := item_short b10 x hxm
        have hfl := flat_le p.items (i + 1)
        rw [flat_take hx, List.length_append, itB_len] at hfl
        obtain ⟨ad, hix, _, hcx⟩ := (hc.keep hF15 (fun _ _ e => e)).at1 (i := i) (x := stv x) (by rw [List.getElem?_map, hx]; rfl) .i64
        simp only [RS0, RS1, RS2, RS3, RS4, RS5, e1, hix, hcx, str_size]
        refine (big_spec w15 (n := (x.length : Nat)) (by unfold In; omega) 2).mono ?_
        rintro _ w16 ⟨rfl, hf16⟩
        have g7 : bigB (x.length : Nat) 2 = beN 2 x.length := bigB_of (n := x.length) (w := 2) (by omega) (by omega)
        rw [g7, sadd (by simp only [List.length_append, beN_len]; omega)]
        try simp only [RS0, RS1, RS2, RS3, RS4, RS5]
        refine (bwrite_spec (hB15.keep hf16) _ (by simp only [List.length_append, beN_len]; omega)).mono ?_
        rintro _ w17 ⟨hB17, hf17⟩
        simp only [RS0, RS1, RS2, RS3, RS4, RS5, e2]
        refine ⟨⟨i + 1, rfl, by omega, ?_, (hP15.keep hf16 (fun e => e)).keep hf17 (by omega), Fm.own (Fmf hF15 hf16) hf17 (fun y hy => by omega)⟩, by simp only [nth_0]; omega⟩
        rw [flat_take hx, ← List.append_assoc]; exact hB17
      · obtain rfl : i = p.items.length := by omega
        have e1 : decide (((p.items.length : Nat) : Int) < (p.items.length : Int)) = false := by simp
        rw [List.take_length, show pHead p ++ p.items.flatMap itB = pBody p from rfl] at hB15
        simp only [RS0, RS1, RS2, RS3, RS4, RS5, e1]
        refine (blen_spec hB15).mono ?_
        rintro _ w15 ⟨rfl, rfl⟩
        have e3 : IntKind.i64.wrap (508 - ((pBody p).length : Int)) = ((508 - (pBody p).length : Nat) : Int) := by rw [wrap_id] <;> omega
        simp only [RS0, RS1, RS2, RS3, RS4, RS5, e3]
        refine (repeat_spec w15 (508 - (pBody p).length) (by omega)).mono ?_
        rintro _ w16 ⟨rfl, hf16⟩
        refine (bwrite_spec (hB15.keep hf16) _ (by rw [zeros_len]; omega)).mono ?_
        rintro _ w17 ⟨hB17, hf17⟩
        rw [show pBody p ++ zeros (508 - (pBody p).length) = pText p from rfl] at hB17
        have hF17 := Fm.own (Fmf hF15 hf16) hf17 (fun y hy => by omega)
        refine (bstring_spec hB17).mono ?_
        rintro _ w18 ⟨rfl, hB18, hf18⟩
        have htl := pText_len b10
        refine (sum_spec w18 (pText p) (by omega)).mono ?_
        rintro _ w18 ⟨rfl, rfl⟩
        obtain ⟨q1, q2⟩ := crc_in (pText p)
        simp only [RS0, RS1, RS2, RS3, RS4, RS5, cvI_int, q2]
        refine (big_spec w18 q1 4).mono ?_
        rintro _ w19 ⟨rfl, hf19⟩
        refine (bstring_spec (hB18.keep hf19)).mono ?_
        rintro _ w20 ⟨rfl, hB20, hf20⟩
        have g8 : bigB (crc (pText p) : Nat) 4 = beN 4 (crc (pText p)) := bigB_of (n := crc (pText p)) (w := 4) (by omega) (by omega)
        rw [g8, sadd (by rw [beN_len]; omega)]
        try simp only [RS0, RS1, RS2, RS3, RS4, RS5]
        refine ⟨(encR_ok hok).symm, Fm.own (Fmf (Fm.own hF17 hf18 (fun y hy => by omega)) hf19) hf20 (fun y hy => by omega)⟩
    · intro jj hjj
      have d1 : decide ((255 : Int) < (p.high.length : Int)) = decide (255 < p.high.length) := by rw [decide_eq_decide]; omega
      have hall := hw1.all
      simp only [RS0, RS1, RS2, RS3, RS4, RS5, hw1.c4, str_size, d1]
      cases hd : decide (255 < p.high.length) with
      | true =>
        simp only [RS0, RS1, RS2, RS3, RS4, RS5]
        refine hjj _ _ ⟨?_, hw1, Fm.refl _ _⟩
        have : longB p = true := by unfold longB; rw [decide_eq_true_eq] at hd ⊢; exact .inl hd
        rw [this]
      | false =>
        simp only [RS0, RS1, RS2, RS3, RS4, RS5, hall]
        refine (fits_spec (p := p) ⟨⟨v, rfl, hone, hc1⟩, h.small, h.ins⟩).mono ?_
        rintro _ w3 ⟨rfl, hf3⟩
        simp only [RS0, RS1, RS2, RS3, RS4, RS5]
        refine hjj _ _ ⟨?_, hw1.keep hf3 (fun e => e), hf3⟩
        congr 2
        unfold fitsB longB
        rw [decide_eq_false_iff_not] at hd
        by_cases h1 : p.items.length ≤ 255
        · by_cases h2 : pSize p ≤ 512
          · simp [h1, h2]; omega
          · simp [h1, h2]; omega
        · simp [h1]; omega
  · intro jj hjj
    have fin : ∀ b : Bool, rangeB p = b → jj [.bool b] w1 := fun b hb => hjj _ _ ⟨by rw [hb], rfl⟩
    have hmin : decide ((if p.right < (if p.level < p.lsn then p.level else p.lsn) then p.right else (if p.level < p.lsn then p.level else p.lsn)) < 0) = decide (p.lsn < 0 ∨ p.level < 0 ∨ p.right < 0) := by
      rw [decide_eq_decide]; split <;> split <;> omega
    simp only [RS0, RS1, RS2, RS3, RS4, RS5, hw1.c0, hw1.c2, hw1.c3, fold_min3, hmin]
    cases h1 : decide (p.lsn < 0 ∨ p.level < 0 ∨ p.right < 0) with
    | true => simp only [RS0, RS1, RS2, RS3, RS4, RS5]; exact fin _ (by unfold rangeB; simp only [decide_eq_true_eq] at *; omega)
    | false =>
    simp only [RS0, RS1, RS2, RS3, RS4, RS5, hw1.c1]
    cases h2 : decide (p.kind < 1) with
    | true => simp only [RS0, RS1, RS2, RS3, RS4, RS5]; exact fin _ (by unfold rangeB; simp only [decide_eq_true_eq] at *; omega)
    | false =>
    simp only [RS0, RS1, RS2, RS3, RS4, RS5, hw1.c1]
    cases h3 : decide (3 < p.kind) with
    | true => simp only [RS0, RS1, RS2, RS3, RS4, RS5]; exact fin _ (by unfold rangeB; simp only [decide_eq_true_eq] at *; omega)
    | false =>
    simp only [RS0, RS1, RS2, RS3, RS4, RS5, hw1.c2]
    cases h4 : decide (255 < p.level) with
    | true => simp only [RS0, RS1, RS2, RS3, RS4, RS5]; exact fin _ (by unfold rangeB; simp only [decide_eq_true_eq] at *; omega)
    | false =>
    simp only [RS0, RS1, RS2, RS3, RS4, RS5, hw1.c3]
    refine fin _ ?_
    unfold rangeB
    rw [decide_eq_decide]
    simp only [decide_eq_false_iff_not] at *
    omega

end Go.Proofs.YthbngnlmgplijaaGreatDoor

namespace Go.Proofs.YthbngnlmgplijaaGreatDoor
open Go.Al Go.Proofs
set_option linter.unusedVariables false
set_option linter.unusedSimpArgs false
set_option linter.unusedSectionVars false
set_option maxRecDepth 100000

/-! ### A page whose list is the call's own -/
structure PgOw (w : World) (base : Nat) (cs : Array Value) (p : Pg) : Prop where
  ex : ∃ v, cs = pcs p v ∧ w.ownsRow base 9 1 v p.items.length (p.items.map stv)
  small : ∀ x ∈ p.items, x.length ≤ 140737488355328
  ins : In p.lsn ∧ In p.kind ∧ In p.level ∧ In p.right ∧ p.high.length ≤ 140737488355328 ∧ p.items.length * 16 ≤ 140737488355328
theorem PgOw.as {w : World} {base : Nat} {cs : Array Value} {p : Pg} (h : PgOw w base cs p) : PgAs w cs p := by
  obtain ⟨v, h1, h2⟩ := h.ex
  exact ⟨⟨v, h1, own_one h2, CellsAt.of_own h2⟩, h.small, h.ins⟩
theorem PgOw.keep {w w' : World} {base : Nat} {cs : Array Value} {p : Pg} (h : PgOw w base cs p) (hf : Fm (fun _ => False) w w') : PgOw w' base cs p := by
  obtain ⟨v, h1, h2⟩ := h.ex
  exact ⟨⟨v, h1, own_keep h2 hf (fun _ _ _ _ e => e)⟩, h.small, h.ins⟩
theorem PgOw.zero (w : World) (base : Nat) : PgOw w base (pcs pg0 (.slice none 0 0)) pg0 := ⟨⟨_, rfl, World.ownsRow_nil _ _ _ _⟩, by simp [pg0], by simp [pg0, In]⟩

theorem bld24z (w : World) : (Instr.build 61 #[]).run Tryz.prog w = .ok (.agg (pcs pg0 (.slice none 0 0))) w := by kernel_rfl
theorem bld24a (a b c d : Int) (w : World) : (Instr.build 61 #[(0, iv a), (1, iv b), (2, iv c), (3, iv d)]).run Tryz.prog w = .ok (.agg (pcs ⟨a, b, c, d, [], []⟩ (.slice none 0 0))) w := by kernel_rfl
theorem agg24 : aggB Tryz.prog 61 = some true := by kernel_rfl
theorem size24 : sizeB Tryz.prog 61 = some 6 := by kernel_rfl
theorem retPg {w : World} {g i j : Nat} {cs : Array Value} {u : Value} (h : w.heap[g]? = some (.cells cs 61)) (hn : cs.size = 6) {f : Fr} (hf : f i = pv g) (hj : f j = u) (k : KV) (hk : k (.tuple #[.agg cs, u]) w) : RetO (resL Tryz.prog f w [.cell i 61, .tmp j]) w k := by
  have hj' : resV Tryz.prog f w (.tmp j) = some u := by simp only [resV, hj]
  simp only [resL, resV_blk hf agg24 size24 h hn, hj', RetO, RetV]; exact hk
theorem ixS_getD {d : Bs} {k : Nat} (h : k < d.length) : ixS (stv d) (.int .i64 k) = some (.int .u8 ((d.getD k 0).toNat : Nat)) := by
  have : d[k]? = some (d.getD k 0) := by rw [List.getD_eq_getElem?_getD, List.getElem?_eq_getElem h]; rfl
  exact ixS_str this .i64
theorem u8_i64 (b : UInt8) : IntKind.i64.wrap (b.toNat : Nat) = ((b.toNat : Nat) : Int) := by have := b.toNat_lt; exact wrap_nat (by omega)

/-! ### cut -/
def SB (w : World) (g : Nat) (s : Bs) : Prop := w.heap[g]? = some (.cells #[stv s] 9)
theorem SB.keep {S : Nat → Prop} {w w' : World} {g : Nat} {s : Bs} (h : SB w g s) (hf : Fm S w w') (hs : ¬ S g) : SB w' g s := hf.heap h hs
theorem SB.c {w : World} {g : Nat} {s : Bs} (h : SB w g s) : w.cell? ⟨g, 0, none⟩ = some (stv s) := by rw [cell_at h]; rfl
theorem cut_spec {w : World} {g : Nat} {s : Bs} (h : SB w g s) (n : Nat) : Cl Tryz.prog 116 [pv g, iv n] w fun r w' => r = .tuple #[stv (bif decide (n ≤ s.length) then s.take n else []), .bool (decide (n ≤ s.length))] ∧ SB w' g (bif decide (n ≤ s.length) then s.drop n else s) ∧ Fm (· = g) w w' := by
  refine c116 ?_; unfold T116
  have d1 : decide ((s.length : Int) < (n : Int)) = !decide (n ≤ s.length) := by
    by_cases hn : n ≤ s.length
    · simp [hn]
    · simp [hn]; omega
  simp only [RS0, RS1, RS2, RS3, RS4, RS5, h.c, str_size, d1]
  cases hd : decide (n ≤ s.length) with
  | false =>
    simp only [RS0, RS1, RS2, RS3, RS4, RS5]
    exact ⟨(by trivial), h, Fm.refl _ _⟩
  | true =>
    rw [decide_eq_true_eq] at hd
    simp only [RS0, RS1, RS2, RS3, RS4, RS5, h.c, slS_hi hd .i64, slS_lo hd .i64]
    refine St_blk h (by show 0 < 1; decide) rfl ?_
    intro w2 hw2 hs2 hf2
    exact ⟨rfl, hw2, hf2⟩

/-! ### What bytes give -/
theorem pDec_len {d : Bs} (h : d.length ≠ 512) : pDec d = (pg0, 31) := by
  unfold pDec
  rw [show decide (d.length ≠ 512) = true by simpa using h]; rfl
theorem pDec_sum {d : Bs} (h : d.length = 512) (h2 : beN 4 (crc (d.drop 4)) ≠ d.take 4) : pDec d = (pg0, 30) := by
  unfold pDec
  rw [show decide (d.length ≠ 512) = false by simpa using h, show decide (beN 4 (crc (d.drop 4)) ≠ d.take 4) = true by rw [decide_eq_true_eq]; exact h2]; rfl
theorem pDec_none {d : Bs} (h : d.length = 512) (h2 : beN 4 (crc (d.drop 4)) = d.take 4) (h3 : pItems (dMany d) (dRest d) = none) : pDec d = (pg0, 31) := by
  unfold pDec
  rw [show decide (d.length ≠ 512) = false by simpa using h, show decide (beN 4 (crc (d.drop 4)) ≠ d.take 4) = false by rw [decide_eq_false_iff_not]; exact fun e => e h2, h3]; rfl
def badD (d t : Bs) : Bool := decide (t ≠ zeros t.length) || decide (127 < (d.getD 4 0).toNat) || decide (dKind d < 1) || decide (3 < dKind d)
def headP (d : Bs) (l : List Bs) : Pg := ⟨(dLsn d % 2 ^ 63 : Nat), dKind d, dLevel d, dRight d, dHigh d, l⟩
theorem pDec_some {d : Bs} (h : d.length = 512) (h2 : beN 4 (crc (d.drop 4)) = d.take 4) {l : List Bs} {t : Bs} (h3 : pItems (dMany d) (dRest d) = some (l, t)) : pDec d = bif badD d t then (pg0, 31) else (headP d l, 0) := by
  unfold pDec
  rw [show decide (d.length ≠ 512) = false by simpa using h, show decide (beN 4 (crc (d.drop 4)) ≠ d.take 4) = false by rw [decide_eq_false_iff_not]; exact fun e => e h2, h3]
  have : badD d t = decide (t ≠ zeros t.length ∨ 127 < (d.getD 4 0).toNat ∨ dKind d < 1 ∨ 3 < dKind d) := by
    unfold badD
    simp only [Bool.decide_or, Bool.or_assoc]
  rw [this]; rfl
theorem headP_in {d : Bs} (h : d.length = 512) {l : List Bs} (hl : l.length ≤ 255) : In (headP d l).lsn ∧ In (headP d l).kind ∧ In (headP d l).level ∧ In (headP d l).right ∧ (headP d l).high.length ≤ 140737488355328 ∧ (headP d l).items.length * 16 ≤ 140737488355328 := by
  have h1 : dKind d < 256 := UInt8.toNat_lt _
  have h2 : dLevel d < 256 := UInt8.toNat_lt _
  have h3 : dRight d < 256 ^ 4 := ofB_lt 4 _ (by rw [List.length_take, List.length_drop]; omega)
  have h4 : (dHigh d).length ≤ 512 := by unfold dHigh; rw [List.length_take, List.length_drop]; omega
  unfold headP In
  simp only
  omega

/-- The items that are read, one after the other. -/
theorem pItems_succ (n : Nat) (s : Bs) : pItems (n + 1) s = bif decide (2 ≤ s.length) && decide (ofB (s.take 2) ≤ (s.drop 2).length) then (pItems n ((s.drop 2).drop (ofB (s.take 2)))).map (fun x => ((s.drop 2).take (ofB (s.take 2)) :: x.1, x.2)) else none := by
  rw [pItems]
  by_cases h1 : s.length < 2
  · simp [h1, show ¬ 2 ≤ s.length by omega]
  · by_cases h2 : (s.drop 2).length < ofB (s.take 2)
    · have e2 : decide (ofB (s.take 2) ≤ (s.drop 2).length) = false := by rw [decide_eq_false_iff_not]; omega
      have e3 : decide (s.length < 2) = false := by rw [decide_eq_false_iff_not]; exact h1
      have e4 : decide ((s.drop 2).length < ofB (s.take 2)) = true := by rw [decide_eq_true_eq]; exact h2
      rw [e2, e3, e4, Bool.and_false]; rfl
    · have e1 : decide (2 ≤ s.length) = true := by rw [decide_eq_true_eq]; omega
      have e2 : decide (ofB (s.take 2) ≤ (s.drop 2).length) = true := by rw [decide_eq_true_eq]; omega
      have e3 : decide (s.length < 2) = false := by rw [decide_eq_false_iff_not]; exact h1
      have e4 : decide ((s.drop 2).length < ofB (s.take 2)) = false := by rw [decide_eq_false_iff_not]; exact h2
      rw [e1, e2, e3, e4]; rfl
/-- What stands after i items: those taken, the rest. -/
def Mid (d : Bs) (i : Nat) (l : List Bs) (s : Bs) : Prop := l.length = i ∧ (∀ x ∈ l, x.length ≤ 512) ∧ s.length ≤ 492 ∧ pItems (dMany d) (dRest d) = (pItems (dMany d - i) s).map (fun x => (l ++ x.1, x.2))
theorem Mid.zero {d : Bs} (h : d.length = 512) : Mid d 0 [] (dRest d) := by
  refine ⟨rfl, by simp, ?_, ?_⟩
  · unfold dRest; simp only [List.length_drop]; omega
  · rw [Nat.sub_zero]
    cases pItems (dMany d) (dRest d) <;> simp
theorem Mid.next {d : Bs} {i : Nat} {l : List Bs} {s : Bs} (h : Mid d i l s) (hi : i < dMany d) (h1 : 2 ≤ s.length) (h2 : ofB (s.take 2) ≤ (s.drop 2).length) : Mid d (i + 1) (l ++ [(s.drop 2).take (ofB (s.take 2))]) ((s.drop 2).drop (ofB (s.take 2))) := by
  obtain ⟨a, b, c, e⟩ := h
  refine ⟨by simp [a], ?_, ?_, ?_⟩
  · intro x hx
    rcases List.mem_append.1 hx with hx | hx
    · exact b x hx
    · obtain rfl : x = _ := by simpa using hx
      simp only [List.length_take, List.length_drop]; omega
  · simp only [List.length_drop]; omega
  · rw [e, show dMany d - i = (dMany d - (i + 1)) + 1 by omega, pItems_succ, show decide (2 ≤ s.length) = true by simpa using h1, show decide (ofB (s.take 2) ≤ (s.drop 2).length) = true by simpa using h2]
    simp only [Bool.and_true, cond_true, Option.map_map]
    congr 1
    funext x
    simp
theorem Mid.stop {d : Bs} {i : Nat} {l : List Bs} {s : Bs} (h : Mid d i l s) (hi : i < dMany d) (h1 : ¬ (2 ≤ s.length ∧ ofB (s.take 2) ≤ (s.drop 2).length)) : pItems (dMany d) (dRest d) = none := by
  rw [h.2.2.2, show dMany d - i = (dMany d - (i + 1)) + 1 by omega, pItems_succ]
  have : (decide (2 ≤ s.length) && decide (ofB (s.take 2) ≤ (s.drop 2).length)) = false := by
    rw [← Bool.not_eq_true, Bool.and_eq_true, decide_eq_true_eq, decide_eq_true_eq]; exact h1
  rw [this]; rfl
theorem Mid.last {d : Bs} {l : List Bs} {s : Bs} (h : Mid d (dMany d) l s) : pItems (dMany d) (dRest d) = some (l, s) := by
  rw [h.2.2.2, Nat.sub_self, pItems]; simp
theorem bs22 (x : Bs) (w : World) : (Instr.buildSlice 59 1 #[(0, stv x)]).run Tryz.prog w = .ok (.slice (some ⟨w.heap.size, 0, none⟩) 1 1) (w.alloc (.cells #[stv x] 9)) := by kernel_rfl

set_option maxHeartbeats 8000000 in
theorem decode_spec (w : World) (d : Bs) (hd : d.length ≤ 9223372036854775806) : Cl Tryz.prog 41 [stv d] w fun r w' => ∃ cs, r = .tuple #[.agg cs, iv (pDec d).2] ∧ PgOw w' w.heap.size cs (pDec d).1 ∧ Fm (fun _ => False) w w' := by
  refine c41 ?_; unfold T41
  refine New_any ?_
  intro x2 w1 hx2 hs1 hw1 hf1
  have ret : ∀ (w' : World) (cs0 : Array Value) (e : Int) (f : Fr), w'.heap[x2]? = some (.cells cs0 61) → cs0.size = 6 → Fm (fun _ => False) w w' → f 2 = pv x2 → f 3 = iv e → pDec d = (pg0, e) → 
      ((∀ w'' : World, w''.heap[x2]? = some (.cells (pcs pg0 (.slice none 0 0)) 61) → Fm (fun _ => False) w w'' → RetO (resL Tryz.prog f w'' [.cell 2 61, .tmp 3]) w'' (fun r w' => ∃ cs, r = .tuple #[.agg cs, iv (pDec d).2] ∧ PgOw w' w.heap.size cs (pDec d).1 ∧ Fm (fun _ => False) w w'))) := by
    intro w' cs0 e f h1 h2 h3 h4 h5 h6 w'' h7 h8
    refine retPg (u := iv e) h7 rfl h4 h5 _ ?_
    rw [h6]
    exact ⟨_, rfl, PgOw.zero _ _, h8⟩
  have d0 : decide ((d.length : Int) = 512) = decide (d.length = 512) := by rw [decide_eq_decide]; omega
  simp only [RS0, RS1, RS2, RS3, RS4, RS5, str_size, bne_dec, d0]
  cases h0 : decide (d.length = 512) with
  | false =>
    have hne : d.length ≠ 512 := by simpa using h0
    simp only [RS0, RS1, RS2, RS3, RS4, RS5]
    refine RunS_ok (bld24z _) ?_
    refine St_all hw1 rfl rfl (by intro u hu; simp [pcs] at hu; rcases hu with rfl | rfl | rfl | rfl | rfl | rfl <;> rfl) ?_
    intro w2 hw2 hs2 hf2
    exact ret w1 _ 31 _ hw1 rfl hf1 rfl rfl (pDec_len hne) w2 hw2 (Fm.own hf1 hf2 (by rintro y rfl; omega))
  | true =>
  have h512 : d.length = 512 := by simpa using h0
  have s1 : slS (stv d) (some (Value.int .i64 4)) none = some (stv (d.drop 4)) := slS_lo (i := 4) (by omega) .i64
  have s2 : slS (stv d) none (some (Value.int .i64 4)) = some (stv (d.take 4)) := slS_hi (i := 4) (by omega) .i64
  have hf2 := Fm.drew (fun _ => False) w1
  have hx2' : w1.drew.heap[x2]? = some (.cells #[iv 0, iv 0, iv 0, iv 0, stv [], .slice none 0 0] 61) := hw1
  have hF2 := Fmf hf1 hf2
  simp only [RS0, RS1, RS2, RS3, RS4, RS5, s1, s2]
  generalize w1.drew = w2 at hf2 hx2' hF2
  refine (sum_spec w2 (d.drop 4) (by rw [List.length_drop]; omega)).mono ?_
  rintro _ w2 ⟨rfl, rfl⟩
  obtain ⟨q1, q2⟩ := crc_in (d.drop 4)
  simp only [RS0, RS1, RS2, RS3, RS4, RS5, cvI_int, q2]
  refine (big_spec w2 q1 4).mono ?_
  rintro _ w3 ⟨rfl, hf3⟩
  have g8 : bigB (crc (d.drop 4) : Nat) 4 = beN 4 (crc (d.drop 4)) := bigB_of (n := crc (d.drop 4)) (w := 4) (by omega) (by omega)
  have hx3 := hf3.heap hx2' (fun e => e)
  have hF3 := Fmf hF2 hf3
  rw [g8]
  simp only [RS0, RS1, RS2, RS3, RS4, RS5, str_inj]
  cases hsum : decide (beN 4 (crc (d.drop 4)) = d.take 4) with
  | false =>
    have hne : beN 4 (crc (d.drop 4)) ≠ d.take 4 := by simpa using hsum
    simp only [RS0, RS1, RS2, RS3, RS4, RS5]
    refine RunS_ok (bld24z _) ?_
    refine St_all hx3 rfl rfl (by intro u hu; simp [pcs] at hu; rcases hu with rfl | rfl | rfl | rfl | rfl | rfl <;> rfl) ?_
    intro w4 hw4 hs4 hf4
    exact ret w3 _ 30 _ hx3 rfl hF3 rfl rfl (pDec_sum h512 hne) w4 hw4 (Fm.own hF3 hf4 (by rintro y rfl; omega))
  | true =>
  have hse : beN 4 (crc (d.drop 4)) = d.take 4 := by simpa using hsum
  simp only [RS0, RS1, RS2, RS3, RS4, RS5]
  have hx2s : x2 = w.heap.size := hx2
  refine Jn_at (fun vs w4 => ∃ g4, vs = [pv g4] ∧ PB w4 g4 ⟨(dLsn d % 2 ^ 63 : Nat), dKind d, dLevel d, dRight d, [], []⟩ (.slice none 0 0) ∧ g4 ≠ x2 ∧ w.heap.size ≤ g4 ∧ w4.heap[x2]? = some (.cells #[iv 0, iv 0, iv 0, iv 0, stv [], .slice none 0 0] 61) ∧ Fm (fun _ => False) w w4) ?_ ?_
  · rintro _ w4 ⟨g4, rfl, hP4, hne4, hge4, hx4, hF4⟩ _
    refine ⟨_, rfl, ?_⟩
    have s3 : slS (stv d) (some (Value.int .i64 20)) none = some (stv (d.drop 20)) := slS_lo (i := 20) (by omega) .i64
    have i19 : ixS (stv d) (Value.int .i64 19) = some (.int .u8 ((dHl d : Nat))) := ixS_getD (k := 19) (by omega)
    have i18 : ixS (stv d) (Value.int .i64 18) = some (.int .u8 ((dMany d : Nat))) := ixS_getD (k := 18) (by omega)
    have c19 : IntKind.i64.wrap (dHl d : Nat) = ((dHl d : Nat) : Int) := u8_i64 _
    have c18 : IntKind.i64.wrap (dMany d : Nat) = ((dMany d : Nat) : Int) := u8_i64 _
    have hhl : dHl d < 256 := UInt8.toNat_lt _
    have hmy : dMany d < 256 := UInt8.toNat_lt _
    have hg4l := hP4.lt
    simp only [RS0, RS1, RS2, RS3, RS4, RS5, s3]
    refine New_any ?_
    intro x5 w5 hx5 hs5 hw5 hf5
    refine St_blk hw5 (by show 0 < 1; decide) rfl ?_
    intro w6 hw6 hs6 hf6
    replace hw6 : SB w6 x5 (d.drop 20) := hw6
    have hf46 : Fm (fun _ => False) w4 w6 := Fm.own hf5 hf6 (by rintro y rfl; omega)
    have hP6 := hP4.keep hf46 (fun e => e)
    have hx6 := hf46.heap hx4 (fun e => e)
    have hF6 := Fmf hF4 hf46
    have hz4 := hF4.size
    have hx2l := lt_of_heap hx4
    simp only [RS0, RS1, RS2, RS3, RS4, RS5, i19, cvI_int, c19]
    refine (cut_spec hw6 (dHl d)).mono ?_
    rintro _ w7 ⟨rfl, hS7, hf7⟩
    have hle : decide (dHl d ≤ (d.drop 20).length) = true := by rw [decide_eq_true_eq, List.length_drop]; omega
    rw [hle, cond_true] at hS7
    rw [hle, cond_true]
    have hP7 := hP6.keep hf7 (by omega)
    have hx7 := hf7.heap hx6 (by omega)
    have hF7 : Fm (fun _ => False) w w7 := Fm.own hF6 hf7 (by rintro y rfl; omega)
    simp only [RS0, RS1, RS2, RS3, RS4, RS5]
    refine St_blk hP7 (by show 4 < 6; decide) rfl ?_
    intro w8 hw8 hs8 hf8
    replace hw8 : PB w8 g4 (headP d []) (.slice none 0 0) := hw8
    have hS8 : SB w8 x5 (dRest d) := hS7.keep hf8 (by omega)
    have hx8 := hf8.heap hx7 (fun e => hne4 e.symm)
    have hF8 : Fm (fun _ => False) w w8 := Fm.own hF7 hf8 (by rintro y rfl; omega)
    have hl6 := hw6.keep hf7
    have hz6 : x5 < w8.heap.size := lt_of_heap hS8
    simp only [RS0, RS1, RS2, RS3, RS4, RS5, i18, cvI_int, c18]
    refine ⟨fun vs w9 => ∃ (i : Nat) (l : List Bs) (s : Bs) (v : Value), vs = [iv i] ∧ i ≤ dMany d ∧ Mid d i l s ∧ PB w9 g4 (headP d l) v ∧ w9.ownsRow (x5 + 1) 9 1 v l.length (l.map stv) ∧ SB w9 x5 s ∧ w9.heap[x2]? = some (.cells #[iv 0, iv 0, iv 0, iv 0, stv [], .slice none 0 0] 61) ∧ Fm (fun _ => False) w w9, fun vs _ => (dMany d - nth vs 0).toNat,
      ⟨0, [], dRest d, _, rfl, by omega, Mid.zero h512, hw8, World.ownsRow_nil _ _ _ _, hS8, hx8, hF8⟩, ?_⟩
    rintro _ w9 ivv ⟨i, l, s, v, hvs, hi, hM, hP9, hO9, hS9, hx9, hF9⟩
    cases hvs
    have hll := hM.1
    have hz9 : x5 < w9.heap.size := lt_of_heap hS9
    have hg9 := hP9.lt
    have hx29 := lt_of_heap hx9
    by_cases hlt : i < dMany d
    · have e1 : decide ((i : Int) < (dMany d : Int)) = true := by rw [decide_eq_true_eq]; omega
      have e2 : IntKind.i64.wrap ((i : Int) + 1) = ((i + 1 : Nat) : Int) := by rw [wrap_id] <;> omega
      simp only [RS0, RS1, RS2, RS3, RS4, RS5, e1]
      refine (cut_spec hS9 2).mono ?_
      rintro _ w10 ⟨rfl, hS10, hf10⟩
      have hP10 := hP9.keep hf10 (by omega)
      have hx10 := hf10.heap hx9 (by omega)
      have hF10 : Fm (fun _ => False) w w10 := Fm.own hF9 hf10 (by rintro y rfl; omega)
      have hO10 := own_keep hO9 hf10 (fun k h1 h2 h3 e => by omega)
      by_cases h2 : 2 ≤ s.length
      · have e3 : decide (2 ≤ s.length) = true := by simpa using h2
        rw [e3, cond_true] at hS10
        rw [e3, cond_true]
        have htl : (s.take 2).length = 2 := by rw [List.length_take]; omega
        simp only [RS0, RS1, RS2, RS3, RS4, RS5]
        refine (of_spec w10 (s.take 2) (by omega)).mono ?_
        rintro _ w10 ⟨rfl, rfl⟩
        rw [ofN_short (by omega)]
        refine (cut_spec hS10 (ofB (s.take 2))).mono ?_
        rintro _ w11 ⟨rfl, hS11, hf11⟩
        have hP11 := hP10.keep hf11 (by omega)
        have hx11 := hf11.heap hx10 (by omega)
        have hF11 : Fm (fun _ => False) w w11 := Fm.own hF10 hf11 (by rintro y rfl; omega)
        have hO11 := own_keep hO10 hf11 (fun k h1 h2 h3 e => by omega)
        by_cases h3 : ofB (s.take 2) ≤ (s.drop 2).length
        · have e4 : decide (ofB (s.take 2) ≤ (s.drop 2).length) = true := by simpa using h3
          rw [e4, cond_true] at hS11
          rw [e4, cond_true]
          have hM2 := hM.next hlt h2 h3
          generalize (s.drop 2).take (ofB (s.take 2)) = it at hM2
          generalize (s.drop 2).drop (ofB (s.take 2)) = s' at hM2 hS11
          simp only [RS0, RS1, RS2, RS3, RS4, RS5, hP11.c5]
          have hz11 : x5 < w11.heap.size := lt_of_heap hS11
          refine append_el E22 (by omega) 59 (cs := [stv it]) rfl (bs22 _ _) (by intro u hu; simp at hu; subst hu; rfl) hO11 (by unfold maxLen; omega) (by omega) hz11 ?_
          intro v12 w12 hO12 _ hf12
          have hP12 := hP11.keep hf12 (by omega)
          have hx12 := hf12.heap hx11 (by omega)
          have hS12 := hS11.keep hf12 (by omega)
          have hF12 : Fm (fun _ => False) w w12 := Fm.own hF11 hf12 (fun y hy => by omega)
          try simp only [RS0, RS1, RS2, RS3, RS4, RS5]
          refine St_blk hP12 (by show 5 < 6; decide) (own_one hO12) ?_
          intro w13 hw13 hs13 hf13
          replace hw13 : PB w13 g4 (headP d (l ++ [it])) v12 := hw13
          simp only [RS0, RS1, RS2, RS3, RS4, RS5, e2]
          refine ⟨⟨i + 1, l ++ [it], s', v12, rfl, by omega, hM2, hw13, ?_, hS12.keep hf13 (by omega), hf13.heap hx12 (fun e => hne4 e.symm), Fm.own hF12 hf13 (by rintro y rfl; omega)⟩, by simp only [nth_0]; omega⟩
          have : w13.ownsRow (x5 + 1) 9 1 v12 (l.length + 1) (l.map stv ++ [stv it]) := own_keep hO12 hf13 (fun k h1 h2 h3 e => by omega)
          simpa using this
        · have e4 : decide (ofB (s.take 2) ≤ (s.drop 2).length) = false := by simpa using h3
          rw [e4]
          simp only [RS0, RS1, RS2, RS3, RS4, RS5]
          refine RunS_ok (bld24z _) ?_
          refine St_all hx11 rfl rfl (by intro u hu; simp [pcs] at hu; rcases hu with rfl | rfl | rfl | rfl | rfl | rfl <;> rfl) ?_
          intro w12 hw12 hs12 hf12
          exact ret w11 _ 31 _ hx11 rfl hF11 rfl rfl (pDec_none h512 hse (hM.stop hlt (fun e => h3 e.2))) w12 hw12 (Fm.own hF11 hf12 (by rintro y rfl; omega))
      · have e3 : decide (2 ≤ s.length) = false := by simpa using h2
        rw [e3, cond_false] at hS10
        rw [e3, cond_false]
        simp only [RS0, RS1, RS2, RS3, RS4, RS5]
        refine (of_spec w10 [] (by simp)).mono ?_
        rintro _ w10 ⟨rfl, rfl⟩
        have eo : ofN [] = 0 := rfl
        rw [eo]
        refine (cut_spec hS10 0).mono ?_
        rintro _ w11 ⟨rfl, hS11, hf11⟩
        have hx11 := hf11.heap hx10 (by omega)
        have hF11 : Fm (fun _ => False) w w11 := Fm.own hF10 hf11 (by rintro y rfl; omega)
        simp only [RS0, RS1, RS2, RS3, RS4, RS5]
        refine RunS_ok (bld24z _) ?_
        refine St_all hx11 rfl rfl (by intro u hu; simp [pcs] at hu; rcases hu with rfl | rfl | rfl | rfl | rfl | rfl <;> rfl) ?_
        intro w12 hw12 hs12 hf12
        exact ret w11 _ 31 _ hx11 rfl hF11 rfl rfl (pDec_none h512 hse (hM.stop hlt (fun e => h2 e.1))) w12 hw12 (Fm.own hF11 hf12 (by rintro y rfl; omega))
    · have hie : i = dMany d := by omega
      rw [hie] at hM
      have e1 : decide ((i : Int) < (dMany d : Int)) = false := by rw [decide_eq_false_iff_not]; omega
      have hds := pDec_some h512 hse hM.last
      simp only [RS0, RS1, RS2, RS3, RS4, RS5, e1, hS9.c]
      refine (trim_spec w9 s (by have := hM.2.2.1; omega)).mono ?_
      rintro _ w10 ⟨⟨t, rfl, ht⟩, hf10⟩
      have hP10 := hP9.keep hf10 (fun e => e)
      have hx10 := hf10.heap hx9 (fun e => e)
      have hF10 := Fmf hF9 hf10
      have hO10 := own_keep hO9 hf10 (fun _ _ _ _ e => e)
      have bad : badD d s = true → RunS Tryz.prog (Instr.build 61 #[]) w10 (fun t93_149 w_150 =>
          St 6 w_150 (pv x2) t93_149 fun u_151 w_152 =>
          RetO (resL Tryz.prog (fun j => bif Nat.beq j 2 then pv x2 else bif Nat.beq j 3 then (Value.int IntKind.i64 31) else undef) w_152 [(ResultVar.cell 2 61), (ResultVar.tmp 3)]) w_152 (fun r w' => ∃ cs, r = .tuple #[.agg cs, iv (pDec d).2] ∧ PgOw w' w.heap.size cs (pDec d).1 ∧ Fm (fun _ => False) w w')) := by
        intro hb
        rw [hb, cond_true] at hds
        refine RunS_ok (bld24z _) ?_
        refine St_all hx10 rfl rfl (by intro u hu; simp [pcs] at hu; rcases hu with rfl | rfl | rfl | rfl | rfl | rfl <;> rfl) ?_
        intro w12 hw12 hs12 hf12
        exact ret w10 _ 31 _ hx10 rfl hF10 rfl rfl hds w12 hw12 (Fm.own hF10 hf12 (by rintro y rfl; omega))
      have i4 : ixS (stv d) (Value.int .i64 4) = some (.int .u8 (((d.getD 4 0).toNat : Nat))) := ixS_getD (k := 4) (by omega)
      have dk1 : decide (((headP d l).kind) < 1) = decide (dKind d < 1) := by rw [decide_eq_decide]; unfold headP; simp only; omega
      have dk3 : decide (3 < (headP d l).kind) = decide (3 < dKind d) := by rw [decide_eq_decide]; unfold headP; simp only; omega
      have d4 : decide ((127 : Int) < (((d.getD 4 0).toNat : Nat) : Int)) = decide (127 < (d.getD 4 0).toNat) := by rw [decide_eq_decide]; omega
      have ht0 : decide (t = []) = decide (s = zeros s.length) := by rw [decide_eq_decide]; exact ht
      simp only [RS0, RS1, RS2, RS3, RS4, RS5, str_nil, str_inj, ht0]
      unfold badD at bad hds
      cases b1 : decide (s = zeros s.length) with
      | false =>
        simp only [RS0, RS1, RS2, RS3, RS4, RS5]
        refine bad ?_
        have : s ≠ zeros s.length := by simpa using b1
        simp [this]
      | true =>
      have b1' : decide (s ≠ zeros s.length) = false := by simpa using b1
      rw [b1', Bool.false_or] at bad hds
      simp only [RS0, RS1, RS2, RS3, RS4, RS5, i4, d4]
      cases b2 : decide (127 < (d.getD 4 0).toNat) with
      | true => simp only [RS0, RS1, RS2, RS3, RS4, RS5]; exact bad (by rw [b2]; simp)
      | false =>
      rw [b2, Bool.false_or] at bad hds
      simp only [RS0, RS1, RS2, RS3, RS4, RS5, hP10.c1, dk1]
      cases b3 : decide (dKind d < 1) with
      | true => simp only [RS0, RS1, RS2, RS3, RS4, RS5]; exact bad (by rw [b3]; simp)
      | false =>
      rw [b3, Bool.false_or] at bad hds
      simp only [RS0, RS1, RS2, RS3, RS4, RS5, hP10.c1, dk3]
      cases b4 : decide (3 < dKind d) with
      | true => simp only [RS0, RS1, RS2, RS3, RS4, RS5]; exact bad b4
      | false =>
      rw [b4, cond_false] at hds
      simp only [RS0, RS1, RS2, RS3, RS4, RS5, hP10.all]
      refine St_all hx10 rfl rfl (by intro u hu; simp [pcs] at hu; rcases hu with rfl | rfl | rfl | rfl | rfl | rfl <;> first | rfl | exact own_one hO10) ?_
      intro w12 hw12 hs12 hf12
      refine retPg (g := x2) (i := 2) (j := 3) (u := iv 0) hw12 rfl rfl rfl _ ?_
      rw [hds]
      refine ⟨_, rfl, ⟨⟨v, rfl, own_base (own_keep hO10 hf12 (fun k h1 h2 h3 e => by omega)) (by omega)⟩, fun x hx => by have := hM.2.1 x hx; omega, headP_in h512 (by omega)⟩, Fm.own hF10 hf12 (by rintro y rfl; omega)⟩
  · intro jj hjj
    have s4 : slS (stv d) (some (Value.int .i64 4)) (some (Value.int .i64 12)) = some (stv ((d.drop 4).take 8)) := slS_lh (i := 4) (j := 12) (by omega) (by omega) .i64 .i64
    have s5 : slS (stv d) (some (Value.int .i64 14)) (some (Value.int .i64 18)) = some (stv ((d.drop 14).take 4)) := slS_lh (i := 14) (j := 18) (by omega) (by omega) .i64 .i64
    have i12 : ixS (stv d) (Value.int .i64 12) = some (.int .u8 ((dKind d : Nat))) := ixS_getD (k := 12) (by omega)
    have i13 : ixS (stv d) (Value.int .i64 13) = some (.int .u8 ((dLevel d : Nat))) := ixS_getD (k := 13) (by omega)
    have c12 : IntKind.i64.wrap (dKind d : Nat) = ((dKind d : Nat) : Int) := u8_i64 _
    have c13 : IntKind.i64.wrap (dLevel d : Nat) = ((dLevel d : Nat) : Int) := u8_i64 _
    have o1 : ofN ((d.drop 4).take 8) = dLsn d % 2 ^ 63 := rfl
    have o2 : ofN ((d.drop 14).take 4) = dRight d := ofN_short (by rw [List.length_take]; omega)
    have l1 : ((d.drop 4).take 8).length ≤ 9223372036854775806 := by rw [List.length_take]; omega
    have l2 : ((d.drop 14).take 4).length ≤ 9223372036854775806 := by rw [List.length_take]; omega
    have hf4 := Fm.drew (fun _ => False) w3
    have hx4 : w3.drew.heap[x2]? = some (.cells #[iv 0, iv 0, iv 0, iv 0, stv [], .slice none 0 0] 61) := hx3
    have hF4 := Fmf hF3 hf4
    have hz4 := hF4.size
    have hx2l := lt_of_heap hx4
    refine ⟨fun _ => True, trivial, ?_⟩
    simp only [RS0, RS1, RS2, RS3, RS4, RS5, s4, s5, i12, i13, cvI_int, c12, c13, true_and, and_true]
    generalize w3.drew = w4 at hf4 hx4 hF4 hz4 hx2l
    have fin : ∀ (g : Nat) (w5 w6 : World), w4.heap.size ≤ g → Fm (fun _ => False) w4 w5 → w5.heap[g]? = some (.cells #[iv 0, iv 0, iv 0, iv 0, stv [], .slice none 0 0] 61) → w6.heap[g]? = some (.cells (pcs ⟨(dLsn d % 2 ^ 63 : Nat), dKind d, dLevel d, dRight d, [], []⟩ (.slice none 0 0)) 61) → Fm (· = g) w5 w6 → jj [pv g] w6 := by
      intro g w5 w6 h1 h2 h3 h4 h5
      exact hjj _ _ ⟨g, rfl, h4, by omega, by omega, h5.heap (h2.heap hx4 (fun e => e)) (by omega), Fm.own (Fmf hF4 h2) h5 (by rintro y rfl; omega)⟩
    have lay : ∀ u ∈ (pcs ⟨(dLsn d % 2 ^ 63 : Nat), dKind d, dLevel d, dRight d, [], []⟩ (.slice none 0 0)).toList, u.oneCell' = true := by
      intro u hu; simp [pcs] at hu; rcases hu with rfl | rfl | rfl | rfl | rfl | rfl <;> rfl
    refine ⟨?_, ?_⟩
    · refine (of_spec w4 _ l1).mono ?_
      rintro _ w4 ⟨rfl, rfl⟩
      rw [o1]
      refine ⟨?_, ?_⟩
      · refine (of_spec w4 _ l2).mono ?_
        rintro _ w4 ⟨rfl, rfl⟩
        rw [o2]
        refine ⟨_, fun w5 _ => RunS_ok (bld24a _ _ _ _ _) ⟨rfl, rfl⟩, ?_⟩
        refine New_any ?_
        intro g w5 hg hs5 hw5 hf5
        refine St_all hw5 rfl rfl lay ?_
        intro w6 hw6 hs6 hf6
        exact fin g w5 w6 (by omega) hf5 hw5 hw6 hf6
      · refine New_any ?_
        intro g w5 hg hs5 hw5 hf5
        refine (of_spec w5 _ l2).mono ?_
        rintro _ w5 ⟨rfl, rfl⟩
        rw [o2]
        refine RunS_ok (bld24a _ _ _ _ _) ⟨rfl, ?_⟩
        refine St_all hw5 rfl rfl lay ?_
        intro w6 hw6 hs6 hf6
        exact fin g w5 w6 (by omega) hf5 hw5 hw6 hf6
    · refine New_any ?_
      intro g w5 hg hs5 hw5 hf5
      refine (of_spec w5 _ l1).mono ?_
      rintro _ w5 ⟨rfl, rfl⟩
      rw [o1]
      refine (of_spec w5 _ l2).mono ?_
      rintro _ w5 ⟨rfl, rfl⟩
      rw [o2]
      refine RunS_ok (bld24a _ _ _ _ _) ⟨rfl, ?_⟩
      refine St_all hw5 rfl rfl lay ?_
      intro w6 hw6 hs6 hf6
      exact fin g w5 w6 (by omega) hf5 hw5 hw6 hf6

end Go.Proofs.YthbngnlmgplijaaGreatDoor

namespace Go.Proofs.YthbngnlmgplijaaGreatDoor
open Go.Al Go.Proofs
set_option linter.unusedVariables false
set_option linter.unusedSimpArgs false
set_option linter.unusedSectionVars false
set_option maxRecDepth 100000

def sameB (a b : Pg) : Bool := decide (a.items = b.items) && decide (a.lsn = b.lsn) && decide (a.kind = b.kind) && decide (a.level = b.level) && decide (a.right = b.right) && decide (a.high = b.high)
theorem sameB_eq (a b : Pg) : sameB a b = decide (a = b) := by
  obtain ⟨a1, a2, a3, a4, a5, a6⟩ := a
  obtain ⟨b1, b2, b3, b4, b5, b6⟩ := b
  unfold sameB
  rw [Bool.eq_iff_iff]
  simp only [Bool.and_eq_true, decide_eq_true_eq, Pg.mk.injEq]
  constructor
  · rintro ⟨⟨⟨⟨⟨h1, h2⟩, h3⟩, h4⟩, h5⟩, h6⟩; exact ⟨h2, h3, h4, h5, h6, h1⟩
  · rintro ⟨h2, h3, h4, h5, h6, h1⟩; exact ⟨⟨⟨⟨⟨h1, h2⟩, h3⟩, h4⟩, h5⟩, h6⟩
theorem same_spec {w : World} {ca cb : Array Value} {a b : Pg} (ha : PgAs w ca a) (hb : PgAs w cb b) : Cl Tryz.prog 169 [.agg ca, .agg cb] w fun r w' => r = .bool (decide (a = b)) ∧ Fm (fun _ => False) w w' := by
  rw [← sameB_eq]
  obtain ⟨va, rfl, oa, hca⟩ := ha.ex
  obtain ⟨vb, rfl, ob, hcb⟩ := hb.ex
  refine c169 ?_; unfold T169
  refine New_any ?_
  intro xa w1 hxa hs1 hw1 hf1
  refine New_any ?_
  intro xb w2 hxb hs2 hw2 hf2
  replace hw1 : PB w2 xa a va := hf2.heap hw1 (fun e => e)
  replace hw2 : PB w2 xb b vb := hw2
  have hF2 := Fmf hf1 hf2
  simp only [RS0, RS1, RS2, RS3, RS4, RS5, hw1.c5, hw2.c5]
  refine (equal_spec (hca.keep hF2 (fun _ _ e => e)) (hcb.keep hF2 (fun _ _ e => e))).mono ?_
  rintro _ w3 ⟨rfl, hf3⟩
  have hA := hw1.keep hf3 (fun e => e)
  have hB := hw2.keep hf3 (fun e => e)
  have hF3 := Fmf hF2 hf3
  have hne : xa ≠ xb := by omega
  unfold sameB
  simp only [RS0, RS1, RS2, RS3, RS4, RS5]
  cases d0 : decide (a.items = b.items) with
  | false => simp only [RS0, RS1, RS2, RS3, RS4, RS5, Bool.false_and]; exact ⟨(by trivial), hF3⟩
  | true =>
  have hla := hA.lt
  have hlb := hB.lt
  have hz : w2.heap.size = w.heap.size + 2 := by omega
  have hxw : w.heap.size ≤ xa ∧ w.heap.size ≤ xb := by omega
  simp only [RS0, RS1, RS2, RS3, RS4, RS5, Bool.true_and]
  refine St_blk hA (by show 5 < 6; decide) rfl ?_
  intro w4 hw4 hs4 hf4
  replace hw4 : PB w4 xa a (.slice none 0 0) := hw4
  have hB4 := hB.keep hf4 (fun e => hne e.symm)
  try simp only [RS0, RS1, RS2, RS3, RS4, RS5]
  refine St_blk hB4 (by show 5 < 6; decide) rfl ?_
  intro w5 hw5 hs5 hf5
  replace hw5 : PB w5 xb b (.slice none 0 0) := hw5
  have hA5 := hw4.keep hf5 hne
  have hF5 : Fm (fun _ => False) w w5 := Fm.own (Fm.own hF3 hf4 (by rintro y rfl; omega)) hf5 (by rintro y rfl; omega)
  simp only [RS0, RS1, RS2, RS3, RS4, RS5, hA5.c0, hw5.c0, beq_dec]
  cases d1 : decide (a.lsn = b.lsn) with
  | false => simp only [RS0, RS1, RS2, RS3, RS4, RS5, Bool.false_and]; exact ⟨(by trivial), hF5⟩
  | true =>
  simp only [RS0, RS1, RS2, RS3, RS4, RS5, hA5.c1, hw5.c1, beq_dec, Bool.true_and]
  cases d2 : decide (a.kind = b.kind) with
  | false => simp only [RS0, RS1, RS2, RS3, RS4, RS5, Bool.false_and]; exact ⟨(by trivial), hF5⟩
  | true =>
  simp only [RS0, RS1, RS2, RS3, RS4, RS5, hA5.c2, hw5.c2, beq_dec, Bool.true_and]
  cases d3 : decide (a.level = b.level) with
  | false => simp only [RS0, RS1, RS2, RS3, RS4, RS5, Bool.false_and]; exact ⟨(by trivial), hF5⟩
  | true =>
  simp only [RS0, RS1, RS2, RS3, RS4, RS5, hA5.c3, hw5.c3, beq_dec, Bool.true_and]
  cases d4 : decide (a.right = b.right) with
  | false => simp only [RS0, RS1, RS2, RS3, RS4, RS5, Bool.false_and]; exact ⟨(by trivial), hF5⟩
  | true =>
  simp only [RS0, RS1, RS2, RS3, RS4, RS5, hA5.c4, hw5.c4, str_inj, Bool.true_and]
  exact ⟨(by trivial), hF5⟩
theorem rsame_spec {w : World} {ca cb : Array Value} {a b : Pg} (ha : PgAs w ca a) (hb : PgAs w cb b) : Cl Tryz.prog 34 [.agg ca, .agg cb] w fun r w' => r = .bool (decide (a = b)) ∧ Fm (fun _ => False) w w' := by
  obtain ⟨va, rfl, oa, hca⟩ := ha.ex
  obtain ⟨vb, rfl, ob, hcb⟩ := hb.ex
  refine c34 ?_; unfold T34
  refine New_any ?_
  intro xa w1 hxa hs1 hw1 hf1
  refine New_any ?_
  intro xb w2 hxb hs2 hw2 hf2
  replace hw1 : PB w2 xa a va := hf2.heap hw1 (fun e => e)
  replace hw2 : PB w2 xb b vb := hw2
  have hF2 := Fmf hf1 hf2
  have no : ¬ a = b → (Value.bool false = Value.bool (decide (a = b))) := fun h => by rw [show decide (a = b) = false by simpa using h]
  have hlt := hca.lt
  unfold maxLen at hlt
  simp only [RS0, RS1, RS2, RS3, RS4, RS5, hw1.c0, hw2.c0, bne_dec]
  cases d1 : decide (a.lsn = b.lsn) with
  | false => simp only [RS0, RS1, RS2, RS3, RS4, RS5]; exact ⟨no (fun e => by rw [e] at d1; simp at d1), hF2⟩
  | true =>
  simp only [RS0, RS1, RS2, RS3, RS4, RS5, hw1.c1, hw2.c1, bne_dec]
  cases d2 : decide (a.kind = b.kind) with
  | false => simp only [RS0, RS1, RS2, RS3, RS4, RS5]; exact ⟨no (fun e => by rw [e] at d2; simp at d2), hF2⟩
  | true =>
  simp only [RS0, RS1, RS2, RS3, RS4, RS5, hw1.c2, hw2.c2, bne_dec]
  cases d3 : decide (a.level = b.level) with
  | false => simp only [RS0, RS1, RS2, RS3, RS4, RS5]; exact ⟨no (fun e => by rw [e] at d3; simp at d3), hF2⟩
  | true =>
  simp only [RS0, RS1, RS2, RS3, RS4, RS5, hw1.c3, hw2.c3, bne_dec]
  cases d4 : decide (a.right = b.right) with
  | false => simp only [RS0, RS1, RS2, RS3, RS4, RS5]; exact ⟨no (fun e => by rw [e] at d4; simp at d4), hF2⟩
  | true =>
  simp only [RS0, RS1, RS2, RS3, RS4, RS5, hw1.c4, hw2.c4, str_inj]
  cases d5 : decide (a.high = b.high) with
  | false => simp only [RS0, RS1, RS2, RS3, RS4, RS5]; exact ⟨no (fun e => by rw [e] at d5; simp at d5), hF2⟩
  | true =>
  have dl : decide ((a.items.length : Int) = (b.items.length : Int)) = decide (a.items.length = b.items.length) := by rw [decide_eq_decide]; omega
  simp only [RS0, RS1, RS2, RS3, RS4, RS5, hw1.c5, hw2.c5, hca.lenV, hcb.lenV, bne_dec, dl]
  cases d6 : decide (a.items.length = b.items.length) with
  | false => simp only [RS0, RS1, RS2, RS3, RS4, RS5]; exact ⟨no (fun e => by rw [e] at d6; simp at d6), hF2⟩
  | true =>
  rw [decide_eq_true_eq] at d1 d2 d3 d4 d5 d6
  simp only [RS0, RS1, RS2, RS3, RS4, RS5]
  refine ⟨fun vs w2' => ∃ i : Nat, vs = [iv i] ∧ i ≤ a.items.length ∧ a.items.take i = b.items.take i ∧ PB w2' xa a va ∧ PB w2' xb b vb ∧ Fm (fun _ => False) w w2', fun vs _ => (a.items.length - nth vs 0).toNat, ⟨0, rfl, by omega, rfl, hw1, hw2, hF2⟩, ?_⟩
  rintro _ w3 ivv ⟨i, hvs, hi, heq, hA, hB, hF3⟩
  cases hvs
  by_cases hlt2 : i < a.items.length
  · have e1 : decide ((i : Int) < (a.items.length : Int)) = true := by rw [decide_eq_true_eq]; omega
    have e2 : IntKind.i64.wrap ((i : Int) + 1) = ((i + 1 : Nat) : Int) := by rw [wrap_id] <;> omega
    have hx : a.items[i]? = some a.items[i] := List.getElem?_eq_getElem hlt2
    have hy : b.items[i]? = some b.items[i] := List.getElem?_eq_getElem (by omega)
    generalize a.items[i] = x at hx
    generalize b.items[i] = y at hy
    have hf3 := Fm.drew (fun _ => False) w3
    obtain ⟨ad, hix, _, hc⟩ := hca.at1 (i := i) (x := stv x) (by rw [List.getElem?_map, hx]; rfl) .i64
    obtain ⟨ad', hix', _, hc'⟩ := hcb.at1 (i := i) (x := stv y) (by rw [List.getElem?_map, hy]; rfl) .i64
    have hc2 := hF3.cell' hc (fun e => e)
    have hc2' := hF3.cell' hc' (fun e => e)
    simp only [RS0, RS1, RS2, RS3, RS4, RS5, hA.c5, hca.lenV, e1, hB.c5, true_and, hix, hc2, hix', hc2', str_inj]
    cases hd : decide (x = y) with
    | true =>
      have hxy : x = y := by simpa using hd
      simp only [RS0, RS1, RS2, RS3, RS4, RS5, e2]
      exact ⟨⟨i + 1, rfl, by omega, by rw [List.take_add_one, List.take_add_one, heq, hx, hy, hxy], hA.keep hf3 (fun e => e), hB.keep hf3 (fun e => e), Fmf hF3 hf3⟩, by simp only [nth_0]; omega⟩
    | false =>
      simp only [RS0, RS1, RS2, RS3, RS4, RS5]
      refine ⟨no (fun e => ?_), Fmf hF3 hf3⟩
      rw [decide_eq_false_iff_not] at hd
      rw [e, hy] at hx
      cases hx
      exact hd rfl
  · have hie : i = a.items.length := by omega
    subst hie
    have e1 : decide (((a.items.length : Nat) : Int) < (a.items.length : Int)) = false := by simp
    rw [List.take_length, List.take_of_length_le (by omega)] at heq
    simp only [RS0, RS1, RS2, RS3, RS4, RS5, hA.c5, hca.lenV, e1]
    refine ⟨?_, hF3⟩
    have : a = b := by
      obtain ⟨a1, a2, a3, a4, a5, a6⟩ := a
      obtain ⟨b1, b2, b3, b4, b5, b6⟩ := b
      simp only at d1 d2 d3 d4 d5 heq
      rw [d1, d2, d3, d4, d5, heq]
    rw [show decide (a = b) = true by simpa using this]

end Go.Proofs.YthbngnlmgplijaaGreatDoor

namespace Go.Proofs.YthbngnlmgplijaaGreatDoor
open Go.Al Go.Proofs
set_option maxRecDepth 100000
set_option linter.unusedVariables false
set_option linter.unusedSimpArgs false
/-- Function 13: almonry/rec.Decode. -/
def T13 (k : KV) (s0 : Value) (w : World) : Prop :=
  New #[(Value.int IntKind.i64 0), (Value.int IntKind.i64 0), (Value.int IntKind.i64 0), (Value.int IntKind.u8 0), (Value.int IntKind.i64 0), (Value.int IntKind.i64 0), (Value.int IntKind.i64 0), (Value.int IntKind.i64 0), (Value.int IntKind.i64 0), (Value.int IntKind.i64 0), (Value.string (ByteArray.mk #[])), (Value.slice none 0 0), (Value.slice none 0 0), (Value.slice none 0 0), (Value.slice none 0 0), (Value.slice none 0 0)] 28 w fun t2_1 w_2 =>
  Pu (lenS s0) fun t12_3 =>
  Pu (binV (TypeDesc.int IntKind.i64) .lss t12_3 (Value.int IntKind.i64 8)) fun t13_4 =>
  IfB t13_4
    (RunS Tryz.prog (Instr.build 28 #[]) w_2 fun t14_5 w_6 =>
      St 16 w_6 t2_1 t14_5 fun u_7 w_8 =>
      RetO (resL Tryz.prog (fun j => bif Nat.beq j 2 then t2_1 else bif Nat.beq j 3 then (Value.int IntKind.i64 0) else bif Nat.beq j 4 then (Value.int IntKind.i64 40) else undef) w_8 [(ResultVar.cell 2 28), (ResultVar.tmp 3), (ResultVar.tmp 4)]) w_8 k)
    (Pu (slS s0 none (some (Value.int IntKind.i64 4))) fun t16_9 =>
  Cl Tryz.prog 79 [t16_9] w_2 fun t17_10 w_11 =>
  Pu (binV (TypeDesc.int IntKind.i64) .eql t17_10 (Value.int IntKind.i64 0)) fun t20_12 =>
  Gd (isB false t20_12) (fun kk => kk t17_10 w_11) w_11 fun t22_13 w_14 =>
  Gd (isB false t20_12) (fun kk => Pu (binV (TypeDesc.int IntKind.i64) .gtr t22_13 (Value.int IntKind.i64 65535)) fun vv => kk vv w_14) w_14 fun t23_15 w_16 =>
  Pu (pickV t20_12 (Value.bool true) t23_15) fun t24_17 =>
  IfB t24_17
    (RunS Tryz.prog (Instr.build 28 #[]) w_16 fun t25_18 w_19 =>
      St 16 w_19 t2_1 t25_18 fun u_20 w_21 =>
      RetO (resL Tryz.prog (fun j => bif Nat.beq j 2 then t2_1 else bif Nat.beq j 3 then (Value.int IntKind.i64 0) else bif Nat.beq j 4 then (Value.int IntKind.i64 41) else undef) w_21 [(ResultVar.cell 2 28), (ResultVar.tmp 3), (ResultVar.tmp 4)]) w_21 k)
    (Pu (lenS s0) fun t28_22 =>
      Pu (binV (TypeDesc.int IntKind.i64) .add (Value.int IntKind.i64 8) t17_10) fun t30_23 =>
      Pu (binV (TypeDesc.int IntKind.i64) .lss t28_22 t30_23) fun t31_24 =>
      IfB t31_24
        (RunS Tryz.prog (Instr.build 28 #[]) w_16 fun t32_25 w_26 =>
          St 16 w_26 t2_1 t32_25 fun u_27 w_28 =>
          RetO (resL Tryz.prog (fun j => bif Nat.beq j 2 then t2_1 else bif Nat.beq j 3 then (Value.int IntKind.i64 0) else bif Nat.beq j 4 then (Value.int IntKind.i64 40) else undef) w_28 [(ResultVar.cell 2 28), (ResultVar.tmp 3), (ResultVar.tmp 4)]) w_28 k)
        (Pu (binV (TypeDesc.int IntKind.i64) .add (Value.int IntKind.i64 8) t17_10) fun t35_29 =>
  Pu (slS s0 (some (Value.int IntKind.i64 8)) (some t35_29)) fun t36_30 =>
  Pu (slS s0 (some (Value.int IntKind.i64 4)) (some (Value.int IntKind.i64 8))) fun t38_31 =>
  Cl Tryz.prog 79 [t38_31] w_16 fun t39_32 w_33 =>
  Cl Tryz.prog 80 [t36_30] w_33 fun t41_34 w_35 =>
  Pu (cvI IntKind.i64 t41_34) fun t42_36 =>
  Pu (binV (TypeDesc.int IntKind.i64) .neq t39_32 t42_36) fun t43_37 =>
  IfB t43_37
    (RunS Tryz.prog (Instr.build 28 #[]) w_35 fun t44_38 w_39 =>
      St 16 w_39 t2_1 t44_38 fun u_40 w_41 =>
      RetO (resL Tryz.prog (fun j => bif Nat.beq j 2 then t2_1 else bif Nat.beq j 3 then (Value.int IntKind.i64 0) else bif Nat.beq j 4 then (Value.int IntKind.i64 30) else undef) w_41 [(ResultVar.cell 2 28), (ResultVar.tmp 3), (ResultVar.tmp 4)]) w_41 k)
    (Cl Tryz.prog 81 [t36_30] w_35 fun t47_42 w_43 =>
  Pu (extV t47_42 0) fun t48_44 =>
  Pu (extV t47_42 1) fun t49_45 =>
  New #[(Value.int IntKind.i64 0), (Value.int IntKind.i64 0), (Value.int IntKind.i64 0), (Value.int IntKind.u8 0), (Value.int IntKind.i64 0), (Value.int IntKind.i64 0), (Value.int IntKind.i64 0), (Value.int IntKind.i64 0), (Value.int IntKind.i64 0), (Value.int IntKind.i64 0), (Value.string (ByteArray.mk #[])), (Value.slice none 0 0), (Value.slice none 0 0), (Value.slice none 0 0), (Value.slice none 0 0), (Value.slice none 0 0)] 28 w_43 fun r7_46 w_47 =>
  St 16 w_47 r7_46 t48_44 fun u_48 w_49 =>
  Pu (unV .not t49_45) fun t51_50 =>
  IfB t51_50
    (RunS Tryz.prog (Instr.build 28 #[]) w_49 fun t52_51 w_52 =>
      St 16 w_52 t2_1 t52_51 fun u_53 w_54 =>
      RetO (resL Tryz.prog (fun j => bif Nat.beq j 2 then t2_1 else bif Nat.beq j 3 then (Value.int IntKind.i64 0) else bif Nat.beq j 4 then (Value.int IntKind.i64 41) else undef) w_54 [(ResultVar.cell 2 28), (ResultVar.tmp 3), (ResultVar.tmp 4)]) w_54 k)
    (LdN 16 w_49 r7_46 fun t54_55 w_56 =>
  Cl Tryz.prog 82 [t54_55] w_56 fun t55_57 w_58 =>
  Pu (extV t55_57 0) fun t56_59 =>
  Pu (extV t55_57 1) fun t57_60 =>
  Pu (binV (TypeDesc.int IntKind.i64) .neq t57_60 (Value.int IntKind.i64 0)) fun t59_61 =>
  Gd (isB false t59_61) (fun kk => kk t56_59 w_58) w_58 fun t61_62 w_63 =>
  Gd (isB false t59_61) (fun kk => kk t36_30 w_63) w_63 fun t62_64 w_65 =>
  Gd (isB false t59_61) (fun kk => Pu (binV TypeDesc.string .neq t61_62 t62_64) fun vv => kk vv w_65) w_65 fun t63_66 w_67 =>
  Pu (pickV t59_61 (Value.bool true) t63_66) fun t64_68 =>
  IfB t64_68
    (RunS Tryz.prog (Instr.build 28 #[]) w_67 fun t65_69 w_70 =>
      St 16 w_70 t2_1 t65_69 fun u_71 w_72 =>
      RetO (resL Tryz.prog (fun j => bif Nat.beq j 2 then t2_1 else bif Nat.beq j 3 then (Value.int IntKind.i64 0) else bif Nat.beq j 4 then (Value.int IntKind.i64 41) else undef) w_72 [(ResultVar.cell 2 28), (ResultVar.tmp 3), (ResultVar.tmp 4)]) w_72 k)
    (LdN 16 w_67 r7_46 fun t66_73 w_74 =>
  Pu (binV (TypeDesc.int IntKind.i64) .add (Value.int IntKind.i64 8) t17_10) fun t68_75 =>
  St 16 w_74 t2_1 t66_73 fun u_76 w_77 =>
  RetO (resL Tryz.prog (fun j => bif Nat.beq j 2 then t2_1 else bif Nat.beq j 3 then t68_75 else bif Nat.beq j 4 then (Value.int IntKind.i64 0) else undef) w_77 [(ResultVar.cell 2 28), (ResultVar.tmp 3), (ResultVar.tmp 4)]) w_77 k))))))
theorem e13 (k : KV) (s0 : Value) (w : World) : K KD Tryz.prog 69 (fun j =>  []) (fun j =>  none) (Tryz.f13.body.getD .skip) (retQ Tryz.prog Tryz.f13 k) (argF [s0]) w = T13 k s0 w := by kernel_rfl
theorem c13 {k : KV} {s0 : Value} {w : World} (h : T13 k s0 w) : Cl Tryz.prog 13 [s0] w k :=
  Cl_of_K KD_sound mixed Tryz.func13 (by kernel_rfl) (by kernel_rfl) ((e13 k s0 w).symm ▸ h)

/-- Function 81: almonry/rec.outer. -/
def T81 (k : KV) (s0 : Value) (w : World) : Prop :=
  New #[(Value.int IntKind.i64 0), (Value.int IntKind.i64 0), (Value.int IntKind.i64 0), (Value.int IntKind.u8 0), (Value.int IntKind.i64 0), (Value.int IntKind.i64 0), (Value.int IntKind.i64 0), (Value.int IntKind.i64 0), (Value.int IntKind.i64 0), (Value.int IntKind.i64 0), (Value.string (ByteArray.mk #[])), (Value.slice none 0 0), (Value.slice none 0 0), (Value.slice none 0 0), (Value.slice none 0 0), (Value.slice none 0 0)] 28 w fun t2_1 w_2 =>
  Cl Tryz.prog 148 [s0] w_2 fun t12_3 w_4 =>
  New #[(Value.pointer none)] 181 w_4 fun r4_5 w_6 =>
  St 1 w_6 r4_5 t12_3 fun u_7 w_8 =>
  New #[(Value.int IntKind.i64 0), (Value.int IntKind.i64 0), (Value.int IntKind.i64 0), (Value.int IntKind.u8 0), (Value.int IntKind.i64 0), (Value.int IntKind.i64 0), (Value.int IntKind.i64 0), (Value.int IntKind.i64 0), (Value.int IntKind.i64 0), (Value.int IntKind.i64 0), (Value.string (ByteArray.mk #[])), (Value.slice none 0 0), (Value.slice none 0 0), (Value.slice none 0 0), (Value.slice none 0 0), (Value.slice none 0 0)] 28 w_8 fun x5_9 w_10 =>
  ClV Tryz.prog (.func (Fn.func 149) #[] #[r4_5]) [] w_10 fun t15_11 w_12 =>
  ClV Tryz.prog (.func (Fn.func 149) #[] #[r4_5]) [] w_12 fun t17_13 w_14 =>
  ClV Tryz.prog (.func (Fn.func 149) #[] #[r4_5]) [] w_14 fun t19_15 w_16 =>
  Pu (faV 0 x5_9) fun t20_17 =>
  St 1 w_16 t20_17 t15_11 fun u_18 w_19 =>
  Pu (faV 1 x5_9) fun t21_20 =>
  St 1 w_19 t21_20 t17_13 fun u_21 w_22 =>
  Pu (faV 2 x5_9) fun t22_23 =>
  St 1 w_22 t22_23 t19_15 fun u_24 w_25 =>
  Ld w_25 r4_5 fun t23_26 w_27 =>
  Cl Tryz.prog 150 [t23_26, (Value.int IntKind.i64 13)] w_27 fun t24_28 w_29 =>
  Pu (cvI IntKind.u8 t24_28) fun t25_30 =>
  Pu (faV 3 x5_9) fun t26_31 =>
  St 1 w_29 t26_31 t25_30 fun u_32 w_33 =>
  ClV Tryz.prog (.func (Fn.func 149) #[] #[r4_5]) [] w_33 fun t28_34 w_35 =>
  ClV Tryz.prog (.func (Fn.func 149) #[] #[r4_5]) [] w_35 fun t30_36 w_37 =>
  ClV Tryz.prog (.func (Fn.func 149) #[] #[r4_5]) [] w_37 fun t32_38 w_39 =>
  ClV Tryz.prog (.func (Fn.func 149) #[] #[r4_5]) [] w_39 fun t34_40 w_41 =>
  ClV Tryz.prog (.func (Fn.func 149) #[] #[r4_5]) [] w_41 fun t36_42 w_43 =>
  ClV Tryz.prog (.func (Fn.func 149) #[] #[r4_5]) [] w_43 fun t38_44 w_45 =>
  Pu (faV 4 x5_9) fun t39_46 =>
  St 1 w_45 t39_46 t28_34 fun u_47 w_48 =>
  Pu (faV 5 x5_9) fun t40_49 =>
  St 1 w_48 t40_49 t30_36 fun u_50 w_51 =>
  Pu (faV 6 x5_9) fun t41_52 =>
  St 1 w_51 t41_52 t32_38 fun u_53 w_54 =>
  Pu (faV 7 x5_9) fun t42_55 =>
  St 1 w_54 t42_55 t34_40 fun u_56 w_57 =>
  Pu (faV 8 x5_9) fun t43_58 =>
  St 1 w_57 t43_58 t36_42 fun u_59 w_60 =>
  Pu (faV 9 x5_9) fun t44_61 =>
  St 1 w_60 t44_61 t38_44 fun u_62 w_63 =>
  Ld w_63 r4_5 fun t45_64 w_65 =>
  Cl Tryz.prog 151 [t45_64, (Value.int IntKind.i64 512)] w_65 fun t46_66 w_67 =>
  Pu (faV 10 x5_9) fun t47_68 =>
  St 1 w_67 t47_68 t46_66 fun u_69 w_70 =>
  ∃ C_71 : World → Prop, C_71 (World.drew w_70) ∧
  (Ld (World.drew w_70) r4_5 fun t48_72 w_73 =>
  w_73 = (World.drew w_70) ∧
  ∃ t50_74, (∀ w_75, C_71 w_75 → Ld w_75 r4_5 fun t50_76 w_77 =>
  t50_76 = t50_74 ∧ w_77 = w_75) ∧
  (Cl Tryz.prog 152 [t48_72, (Value.int IntKind.i64 255)] (World.drew w_70) fun t49_78 w_79 =>
  C_71 w_79 ∧
  (Pu (faV 11 x5_9) fun t52_80 =>
  Cl Tryz.prog 152 [t50_74, (Value.int IntKind.i64 255)] w_79 fun t51_81 w_82 =>
  St 1 w_82 t52_80 t49_78 fun u_83 w_84 =>
  Pu (faV 12 x5_9) fun t53_85 =>
  St 1 w_84 t53_85 t51_81 fun u_86 w_87 =>
  Ld w_87 r4_5 fun t54_88 w_89 =>
  Cl Tryz.prog 150 [t54_88, (Value.int IntKind.i64 4)] w_89 fun t55_90 w_91 =>
  ∃ (I_92 : List Value → World → Prop) (m_93 : List Value → World → Nat), I_92 [(Value.int IntKind.i64 0)] w_91 ∧
  ∀ (g_134 : Fr) (w_133 : World), ∀ t56_100 : Value, I_92 [t56_100] w_133 →
    (Pu (binV (TypeDesc.int IntKind.i64) .lss t56_100 t55_90) fun t57_135 =>
    IfB t57_135
      (∃ C_136 : World → Prop, C_136 (World.drew w_133) ∧
    (∃ t60_137, (∀ w_138, C_136 w_138 → Ld w_138 r4_5 fun t60_139 w_140 =>
    t60_139 = t60_137 ∧ w_140 = w_138) ∧
    (ClV Tryz.prog (.func (Fn.func 149) #[] #[r4_5]) [] (World.drew w_133) fun t59_141 w_142 =>
    C_136 w_142 ∧
    (Cl Tryz.prog 151 [t60_137, (Value.int IntKind.i64 512)] w_142 fun t61_143 w_144 =>
    Pu (lenS t61_143) fun t65_145 =>
    Pu (binV (TypeDesc.int IntKind.i64) .sub (Value.int IntKind.i64 512) t65_145) fun t66_146 =>
    Cl Tryz.prog 95 [(Value.string (ByteArray.mk #[0])), t66_146] w_144 fun t67_147 w_148 =>
    Pu (binV TypeDesc.string .add t61_143 t67_147) fun t68_149 =>
    Cl Tryz.prog 41 [t68_149] w_148 fun t69_150 w_151 =>
    Pu (extV t69_150 0) fun t70_152 =>
    Pu (extV t69_150 1) fun t71_153 =>
    New #[(Value.int IntKind.i64 0), (Value.int IntKind.i64 0), (Value.int IntKind.i64 0), (Value.int IntKind.i64 0), (Value.string (ByteArray.mk #[])), (Value.slice none 0 0)] 61 w_151 fun p9_154 w_155 =>
    St 6 w_155 p9_154 t70_152 fun u_156 w_157 =>
    Pu (binV (TypeDesc.int IntKind.i64) .neq t71_153 (Value.int IntKind.i64 0)) fun t73_158 =>
    Gd (isB false t73_158) (fun kk => Ld w_157 r4_5 kk) w_157 fun t75_159 w_160 =>
    Gd (isB false t73_158) (fun kk => Cl Tryz.prog 153 [t75_159] w_160 kk) w_160 fun t76_161 w_162 =>
    Gd (isB false t73_158) (fun kk => Pu (binV (TypeDesc.int IntKind.i64) .neq t76_161 (Value.int IntKind.i64 0)) fun vv => kk vv w_162) w_162 fun t77_163 w_164 =>
    Pu (pickV t73_158 (Value.bool true) t77_163) fun t78_165 =>
    IfB t78_165
      (LdN 16 w_164 x5_9 fun t79_166 w_167 =>
        St 16 w_167 t2_1 t79_166 fun u_168 w_169 =>
        RetO (resL Tryz.prog (fun j => bif Nat.beq j 2 then t2_1 else bif Nat.beq j 3 then (Value.bool false) else undef) w_169 [(ResultVar.cell 2 28), (ResultVar.tmp 3)]) w_169 k)
      (Pu (faV 13 x5_9) fun t80_170 =>
    Ld w_164 t80_170 fun t81_171 w_172 =>
    LdN 6 w_172 p9_154 fun t83_173 w_174 =>
    RunS Tryz.prog (Instr.build 118 #[(0, t59_141), (1, t83_173)]) w_174 fun t84_175 w_176 =>
    RunS Tryz.prog (Instr.buildSlice 24 1 #[(0, t84_175)]) w_176 fun t85_177 w_178 =>
    RunS Tryz.prog (Builtin.append_ #[24, 24] 24 #[t81_171, t85_177]) w_178 fun t86_179 w_180 =>
    Pu (faV 13 x5_9) fun t87_181 =>
    St 1 w_180 t87_181 t86_179 fun u_182 w_183 =>
    Pu (binV (TypeDesc.int IntKind.i64) .add t56_100 (Value.int IntKind.i64 1)) fun t88_184 =>
    I_92 [t88_184] w_183 ∧ m_93 [t88_184] w_183 < m_93 [t56_100] w_133)))))
      (Ld w_133 r4_5 fun t89_185 w_186 =>
  Cl Tryz.prog 150 [t89_185, (Value.int IntKind.i64 8192)] w_186 fun t90_187 w_188 =>
  ∃ (I_189 : List Value → World → Prop) (m_190 : List Value → World → Nat), I_189 [(Value.int IntKind.i64 0)] w_188 ∧
  ∀ (g_211 : Fr) (w_210 : World), ∀ t91_193 : Value, I_189 [t91_193] w_210 →
    (Pu (binV (TypeDesc.int IntKind.i64) .lss t91_193 t90_187) fun t92_212 =>
    IfB t92_212
      (Ld w_210 r4_5 fun t93_213 w_214 =>
    Cl Tryz.prog 153 [t93_213] w_214 fun t94_215 w_216 =>
    Pu (binV (TypeDesc.int IntKind.i64) .neq t94_215 (Value.int IntKind.i64 0)) fun t95_217 =>
    IfB t95_217
      (LdN 16 w_216 x5_9 fun t96_218 w_219 =>
        St 16 w_219 t2_1 t96_218 fun u_220 w_221 =>
        RetO (resL Tryz.prog (fun j => bif Nat.beq j 2 then t2_1 else bif Nat.beq j 3 then (Value.bool false) else undef) w_221 [(ResultVar.cell 2 28), (ResultVar.tmp 3)]) w_221 k)
      (∃ C_222 : World → Prop, C_222 (World.drew w_216) ∧
    (Pu (faV 14 x5_9) fun t97_223 =>
    ∃ t98_224, (∀ w_225, C_222 w_225 → Ld w_225 t97_223 fun t98_226 w_227 =>
    t98_226 = t98_224 ∧ w_227 = w_225) ∧
    (ClV Tryz.prog (.func (Fn.func 149) #[] #[r4_5]) [] (World.drew w_216) fun t100_228 w_229 =>
    C_222 w_229 ∧
    (ClV Tryz.prog (.func (Fn.func 149) #[] #[r4_5]) [] w_229 fun t102_230 w_231 =>
    C_222 w_231 ∧
    (RunS Tryz.prog (Instr.build 120 #[(0, t100_228), (1, t102_230)]) w_231 fun t103_232 w_233 =>
    w_233 = w_231 ∧
    RunS Tryz.prog (Instr.buildSlice 25 1 #[(0, t103_232)]) w_231 fun t104_234 w_235 =>
    C_222 w_235 ∧
    (RunS Tryz.prog (Builtin.append_ #[25, 25] 25 #[t98_224, t104_234]) w_235 fun t105_236 w_237 =>
    Pu (faV 14 x5_9) fun t106_238 =>
    St 1 w_237 t106_238 t105_236 fun u_239 w_240 =>
    Pu (binV (TypeDesc.int IntKind.i64) .add t91_193 (Value.int IntKind.i64 1)) fun t107_241 =>
    I_189 [t107_241] w_240 ∧ m_190 [t107_241] w_240 < m_190 [t91_193] w_210)))))))
      (Ld w_210 r4_5 fun t108_242 w_243 =>
  Cl Tryz.prog 150 [t108_242, (Value.int IntKind.i64 1024)] w_243 fun t109_244 w_245 =>
  ∃ (I_246 : List Value → World → Prop) (m_247 : List Value → World → Nat), I_246 [(Value.int IntKind.i64 0)] w_245 ∧
  ∀ (g_268 : Fr) (w_267 : World), ∀ t110_250 : Value, I_246 [t110_250] w_267 →
    (Pu (binV (TypeDesc.int IntKind.i64) .lss t110_250 t109_244) fun t111_269 =>
    IfB t111_269
      (Ld w_267 r4_5 fun t112_270 w_271 =>
    Cl Tryz.prog 153 [t112_270] w_271 fun t113_272 w_273 =>
    Pu (binV (TypeDesc.int IntKind.i64) .neq t113_272 (Value.int IntKind.i64 0)) fun t114_274 =>
    IfB t114_274
      (LdN 16 w_273 x5_9 fun t115_275 w_276 =>
        St 16 w_276 t2_1 t115_275 fun u_277 w_278 =>
        RetO (resL Tryz.prog (fun j => bif Nat.beq j 2 then t2_1 else bif Nat.beq j 3 then (Value.bool false) else undef) w_278 [(ResultVar.cell 2 28), (ResultVar.tmp 3)]) w_278 k)
      (∃ C_279 : World → Prop, C_279 (World.drew w_273) ∧
    (Pu (faV 15 x5_9) fun t116_280 =>
    ∃ t117_281, (∀ w_282, C_279 w_282 → Ld w_282 t116_280 fun t117_283 w_284 =>
    t117_283 = t117_281 ∧ w_284 = w_282) ∧
    (ClV Tryz.prog (.func (Fn.func 149) #[] #[r4_5]) [] (World.drew w_273) fun t119_285 w_286 =>
    C_279 w_286 ∧
    (ClV Tryz.prog (.func (Fn.func 149) #[] #[r4_5]) [] w_286 fun t121_287 w_288 =>
    C_279 w_288 ∧
    (RunS Tryz.prog (Instr.build 122 #[(0, t119_285), (1, t121_287)]) w_288 fun t122_289 w_290 =>
    w_290 = w_288 ∧
    RunS Tryz.prog (Instr.buildSlice 26 1 #[(0, t122_289)]) w_288 fun t123_291 w_292 =>
    C_279 w_292 ∧
    (RunS Tryz.prog (Builtin.append_ #[26, 26] 26 #[t117_281, t123_291]) w_292 fun t124_293 w_294 =>
    Pu (faV 15 x5_9) fun t125_295 =>
    St 1 w_294 t125_295 t124_293 fun u_296 w_297 =>
    Pu (binV (TypeDesc.int IntKind.i64) .add t110_250 (Value.int IntKind.i64 1)) fun t126_298 =>
    I_246 [t126_298] w_297 ∧ m_247 [t126_298] w_297 < m_247 [t110_250] w_267)))))))
      (∃ C_299 : World → Prop, C_299 (World.drew w_267) ∧
  (∃ t127_300, (∀ w_301, C_299 w_301 → LdN 16 w_301 x5_9 fun t127_302 w_303 =>
  t127_302 = t127_300 ∧ w_303 = w_301) ∧
  (Ld (World.drew w_267) r4_5 fun t128_304 w_305 =>
  w_305 = (World.drew w_267) ∧
  Cl Tryz.prog 154 [t128_304] (World.drew w_267) fun t129_306 w_307 =>
  C_299 w_307 ∧
  (Pu (binV (TypeDesc.int IntKind.i64) .eql t129_306 (Value.int IntKind.i64 0)) fun t130_308 =>
  St 16 w_307 t2_1 t127_300 fun u_309 w_310 =>
  RetO (resL Tryz.prog (fun j => bif Nat.beq j 2 then t2_1 else bif Nat.beq j 3 then t130_308 else undef) w_310 [(ResultVar.cell 2 28), (ResultVar.tmp 3)]) w_310 k))))))))))))
theorem e81 (k : KV) (s0 : Value) (w : World) : K KD Tryz.prog 131 (fun j => bif Nat.beq j 24 then [110] else bif Nat.beq j 18 then [91] else bif Nat.beq j 10 then [56] else []) (fun j =>  none) (Tryz.f81.body.getD .skip) (retQ Tryz.prog Tryz.f81 k) (argF [s0]) w = T81 k s0 w := by kernel_rfl
theorem c81 {k : KV} {s0 : Value} {w : World} (h : T81 k s0 w) : Cl Tryz.prog 81 [s0] w k :=
  Cl_of_K KD_sound mixed Tryz.func81 (by kernel_rfl) (by kernel_rfl) ((e81 k s0 w).symm ▸ h)

/-- Function 82: almonry/rec.checked. -/
def T82 (k : KV) (r0 : Value) (w : World) : Prop :=
  New (Value.cells r0) 28 w fun r1_1 w_2 =>
  Pu (faV 3 r1_1) fun t5_3 =>
  Ld w_2 t5_3 fun t6_4 w_5 =>
  Pu (binV (TypeDesc.int IntKind.u8) .lss t6_4 (Value.int IntKind.u8 1)) fun t7_6 =>
  Gd (isB false t7_6) (fun kk => Pu (faV 3 r1_1) fun vv => kk vv w_5) w_5 fun t9_7 w_8 =>
  Gd (isB false t7_6) (fun kk => Ld w_8 t9_7 kk) w_8 fun t10_9 w_10 =>
  Gd (isB false t7_6) (fun kk => Pu (binV (TypeDesc.int IntKind.u8) .gtr t10_9 (Value.int IntKind.u8 13)) fun vv => kk vv w_10) w_10 fun t11_11 w_12 =>
  Pu (pickV t7_6 (Value.bool true) t11_11) fun t12_13 =>
  IfB t12_13
    (k (.tuple #[(Value.string (ByteArray.mk #[])), (Value.int IntKind.i64 41)]) w_12)
    (Pu (faV 0 r1_1) fun t14_14 =>
      Ld w_12 t14_14 fun t15_15 w_16 =>
      Pu (binV (TypeDesc.int IntKind.i64) .lss t15_15 (Value.int IntKind.i64 1)) fun t16_17 =>
      Gd (isB false t16_17) (fun kk => LdN 16 w_16 r1_1 kk) w_16 fun t18_18 w_19 =>
      Gd (isB false t16_17) (fun kk => Cl Tryz.prog 156 [t18_18] w_19 kk) w_19 fun t19_20 w_21 =>
      Gd (isB false t16_17) (fun kk => Cl Tryz.prog 155 [t19_20, (.func (.func 157) #[] #[])] w_21 kk) w_21 fun t20_22 w_23 =>
      Pu (pickV t16_17 (Value.bool true) t20_22) fun t21_24 =>
      IfB t21_24
        (k (.tuple #[(Value.string (ByteArray.mk #[])), (Value.int IntKind.i64 4)]) w_23)
        (Pu (faV 10 r1_1) fun t23_25 =>
          Ld w_23 t23_25 fun t24_26 w_27 =>
          Pu (lenS t24_26) fun t25_28 =>
          Pu (binV (TypeDesc.int IntKind.i64) .gtr t25_28 (Value.int IntKind.i64 512)) fun t26_29 =>
          Gd (isB false t26_29) (fun kk => Pu (faV 11 r1_1) fun vv => kk vv w_27) w_27 fun t28_30 w_31 =>
          Gd (isB false t26_29) (fun kk => Ld w_31 t28_30 kk) w_31 fun t29_32 w_33 =>
          Gd (isB false t26_29) (fun kk => Pu (lenV t29_32) fun vv => kk vv w_33) w_33 fun t30_34 w_35 =>
          Gd (isB false t26_29) (fun kk => Pu (binV (TypeDesc.int IntKind.i64) .gtr t30_34 (Value.int IntKind.i64 255)) fun vv => kk vv w_35) w_35 fun t31_36 w_37 =>
          Pu (pickV t26_29 (Value.bool true) t31_36) fun t32_38 =>
          Gd (isB false t32_38) (fun kk => Pu (faV 12 r1_1) fun vv => kk vv w_37) w_37 fun t34_39 w_40 =>
          Gd (isB false t32_38) (fun kk => Ld w_40 t34_39 kk) w_40 fun t35_41 w_42 =>
          Gd (isB false t32_38) (fun kk => Pu (lenV t35_41) fun vv => kk vv w_42) w_42 fun t36_43 w_44 =>
          Gd (isB false t32_38) (fun kk => Pu (binV (TypeDesc.int IntKind.i64) .gtr t36_43 (Value.int IntKind.i64 255)) fun vv => kk vv w_44) w_44 fun t37_45 w_46 =>
          Pu (pickV t32_38 (Value.bool true) t37_45) fun t38_47 =>
          Gd (isB false t38_47) (fun kk => Pu (faV 13 r1_1) fun vv => kk vv w_46) w_46 fun t40_48 w_49 =>
          Gd (isB false t38_47) (fun kk => Ld w_49 t40_48 kk) w_49 fun t41_50 w_51 =>
          Gd (isB false t38_47) (fun kk => Pu (lenV t41_50) fun vv => kk vv w_51) w_51 fun t42_52 w_53 =>
          Gd (isB false t38_47) (fun kk => Pu (binV (TypeDesc.int IntKind.i64) .gtr t42_52 (Value.int IntKind.i64 4)) fun vv => kk vv w_53) w_53 fun t43_54 w_55 =>
          Pu (pickV t38_47 (Value.bool true) t43_54) fun t44_56 =>
          Gd (isB false t44_56) (fun kk => Pu (faV 14 r1_1) fun vv => kk vv w_55) w_55 fun t46_57 w_58 =>
          Gd (isB false t44_56) (fun kk => Ld w_58 t46_57 kk) w_58 fun t47_59 w_60 =>
          Gd (isB false t44_56) (fun kk => Pu (lenV t47_59) fun vv => kk vv w_60) w_60 fun t48_61 w_62 =>
          Gd (isB false t44_56) (fun kk => Pu (binV (TypeDesc.int IntKind.i64) .gtr t48_61 (Value.int IntKind.i64 8192)) fun vv => kk vv w_62) w_62 fun t49_63 w_64 =>
          Pu (pickV t44_56 (Value.bool true) t49_63) fun t50_65 =>
          Gd (isB false t50_65) (fun kk => Pu (faV 15 r1_1) fun vv => kk vv w_64) w_64 fun t52_66 w_67 =>
          Gd (isB false t50_65) (fun kk => Ld w_67 t52_66 kk) w_67 fun t53_68 w_69 =>
          Gd (isB false t50_65) (fun kk => Pu (lenV t53_68) fun vv => kk vv w_69) w_69 fun t54_70 w_71 =>
          Gd (isB false t50_65) (fun kk => Pu (binV (TypeDesc.int IntKind.i64) .gtr t54_70 (Value.int IntKind.i64 1024)) fun vv => kk vv w_71) w_71 fun t55_72 w_73 =>
          Pu (pickV t50_65 (Value.bool true) t55_72) fun t56_74 =>
          IfB t56_74
            (k (.tuple #[(Value.string (ByteArray.mk #[])), (Value.int IntKind.i64 3)]) w_73)
            (LdN 16 w_73 r1_1 fun t57_75 w_76 =>
  Cl Tryz.prog 158 [t57_75] w_76 fun t58_77 w_78 =>
  Pu (extV t58_77 0) fun t59_79 =>
  Pu (extV t58_77 1) fun t60_80 =>
  k (.tuple #[t59_79, t60_80]) w_78)))
theorem e82 (k : KV) (r0 : Value) (w : World) : K KD Tryz.prog 61 (fun j =>  []) (fun j =>  none) (Tryz.f82.body.getD .skip) (retQ Tryz.prog Tryz.f82 k) (argF [r0]) w = T82 k r0 w := by kernel_rfl
theorem c82 {k : KV} {r0 : Value} {w : World} (h : T82 k r0 w) : Cl Tryz.prog 82 [r0] w k :=
  Cl_of_K KD_sound mixed Tryz.func82 (by kernel_rfl) (by kernel_rfl) ((e82 k r0 w).symm ▸ h)

/-- Function 89: almonry/rec.Encode. -/
def T89 (k : KV) (r0 : Value) (w : World) : Prop :=
  New (Value.cells r0) 28 w fun r1_1 w_2 =>
  LdN 16 w_2 r1_1 fun t7_3 w_4 =>
  Cl Tryz.prog 82 [t7_3] w_4 fun t8_5 w_6 =>
  Pu (extV t8_5 0) fun t9_7 =>
  Pu (extV t8_5 1) fun t10_8 =>
  Pu (binV (TypeDesc.int IntKind.i64) .neq t10_8 (Value.int IntKind.i64 0)) fun t12_9 =>
  IfB t12_9
    (k (.tuple #[(Value.string (ByteArray.mk #[])), t10_8]) w_6)
    (Pu (lenS t9_7) fun t15_10 =>
  Cl Tryz.prog 115 [t15_10, (Value.int IntKind.i64 4)] w_6 fun t16_11 w_12 =>
  Cl Tryz.prog 80 [t9_7] w_12 fun t18_13 w_14 =>
  Pu (cvI IntKind.i64 t18_13) fun t19_15 =>
  Cl Tryz.prog 115 [t19_15, (Value.int IntKind.i64 4)] w_14 fun t20_16 w_17 =>
  Pu (binV TypeDesc.string .add t16_11 t20_16) fun t21_18 =>
  Pu (binV TypeDesc.string .add t21_18 t9_7) fun t23_19 =>
  k (.tuple #[t23_19, (Value.int IntKind.i64 0)]) w_17)
theorem e89 (k : KV) (r0 : Value) (w : World) : K KD Tryz.prog 24 (fun j =>  []) (fun j =>  none) (Tryz.f89.body.getD .skip) (retQ Tryz.prog Tryz.f89 k) (argF [r0]) w = T89 k r0 w := by kernel_rfl
theorem c89 {k : KV} {r0 : Value} {w : World} (h : T89 k r0 w) : Cl Tryz.prog 89 [r0] w k :=
  Cl_of_K KD_sound mixed Tryz.func89 (by kernel_rfl) (by kernel_rfl) ((e89 k r0 w).symm ▸ h)

/-- Function 148: almonry/bits.Read. -/
def T148 (k : KV) (data0 : Value) (w : World) : Prop :=
  RunS Tryz.prog (Instr.build 221 #[(0, data0)]) w fun t4_1 w_2 =>
  New (Value.cells t4_1) 221 w_2 fun t5_3 w_4 =>
  k t5_3 w_4
theorem e148 (k : KV) (data0 : Value) (w : World) : K KD Tryz.prog 6 (fun j =>  []) (fun j =>  none) (Tryz.f148.body.getD .skip) (retQ Tryz.prog Tryz.f148 k) (argF [data0]) w = T148 k data0 w := by kernel_rfl
theorem c148 {k : KV} {data0 : Value} {w : World} (h : T148 k data0 w) : Cl Tryz.prog 148 [data0] w k :=
  Cl_of_K KD_sound mixed Tryz.func148 (by kernel_rfl) (by kernel_rfl) ((e148 k data0 w).symm ▸ h)

/-- Function 149: almonry/rec.outer$1. -/
def T149 (k : KV) (t0 : Value) (w : World) : Prop :=
  Ld w t0 fun t2_1 w_2 =>
  Cl Tryz.prog 150 [t2_1, (Value.int IntKind.i64 4611686018427387904)] w_2 fun t3_3 w_4 =>
  k t3_3 w_4
theorem e149 (k : KV) (t0 : Value) (w : World) : K KD Tryz.prog 4 (fun j =>  []) (fun j =>  none) (Tryz.f149.body.getD .skip) (retQ Tryz.prog Tryz.f149 k) (argF [t0]) w = T149 k t0 w := by kernel_rfl
theorem c149 {k : KV} {t0 : Value} {w : World} (h : T149 k t0 w) : Cl Tryz.prog 149 [t0] w k :=
  Cl_of_K KD_sound mixed Tryz.func149 (by kernel_rfl) (by kernel_rfl) ((e149 k t0 w).symm ▸ h)

/-- Function 150: (*almonry/bits.Reader).Num. -/
def T150 (k : KV) (r0 : Value) (most1 : Value) (w : World) : Prop :=
  Pu (binV (TypeDesc.pointer 221) .eql r0 (Value.pointer none)) fun t9_1 =>
  Gd (isB false t9_1) (fun kk => kk r0 w) w fun t11_2 w_3 =>
  Gd (isB false t9_1) (fun kk => Pu (nilV t11_2) fun vv => kk vv w_3) w_3 fun t12_4 w_5 =>
  Gd (isB false t9_1) (fun kk => Pu (faV 1 t12_4) fun vv => kk vv w_5) w_5 fun t13_6 w_7 =>
  Gd (isB false t9_1) (fun kk => Ld w_7 t13_6 kk) w_7 fun t14_8 w_9 =>
  Gd (isB false t9_1) (fun kk => Pu (binV (TypeDesc.int IntKind.i64) .neq t14_8 (Value.int IntKind.i64 0)) fun vv => kk vv w_9) w_9 fun t15_10 w_11 =>
  Pu (pickV t9_1 (Value.bool true) t15_10) fun t16_12 =>
  IfB t16_12
    (k (Value.int IntKind.i64 0) w_11)
    (∃ (I_13 : List Value → World → Prop) (m_14 : List Value → World → Nat), I_13 [(Value.int IntKind.i64 0), (Value.int IntKind.i64 0)] w_11 ∧
  ∀ (g_78 : Fr) (w_77 : World), ∀ n5_17 : Value, ∀ t17_20 : Value, I_13 [n5_17, t17_20] w_77 →
    (Pu (binV (TypeDesc.int IntKind.i64) .lss t17_20 (Value.int IntKind.i64 9)) fun t18_79 =>
    IfB t18_79
      (Pu (nilV r0) fun t22_80 =>
    Pu (faV 0 t22_80) fun t23_81 =>
    Ld w_77 t23_81 fun t24_82 w_83 =>
    Pu (lenS t24_82) fun t25_84 =>
    Pu (binV (TypeDesc.int IntKind.i64) .geq t17_20 t25_84) fun t26_85 =>
    IfB t26_85
      (Cl Tryz.prog 196 [r0, (Value.int IntKind.i64 10)] w_83 fun t28_86 w_87 =>
        k t28_86 w_87)
      (Pu (nilV r0) fun t30_88 =>
    Pu (faV 0 t30_88) fun t31_89 =>
    Ld w_83 t31_89 fun t32_90 w_91 =>
    Pu (ixS t32_90 t17_20) fun t34_92 =>
    Pu (binV (TypeDesc.int IntKind.u8) .and t34_92 (Value.int IntKind.u8 127)) fun t37_93 =>
    Pu (cvI IntKind.i64 t37_93) fun t38_94 =>
    Pu (binV (TypeDesc.int IntKind.i64) .mul (Value.int IntKind.i64 7) t17_20) fun t40_95 =>
    Pu (binV (TypeDesc.int IntKind.i64) .shl t38_94 t40_95) fun t41_96 =>
    Pu (binV (TypeDesc.int IntKind.i64) .or n5_17 t41_96) fun t42_97 =>
    Pu (binV (TypeDesc.int IntKind.u8) .eql t34_92 (Value.int IntKind.u8 0)) fun t45_98 =>
    Gd (isB true t45_98) (fun kk => kk t17_20 w_91) w_91 fun t47_99 w_100 =>
    Gd (isB true t45_98) (fun kk => Pu (binV (TypeDesc.int IntKind.i64) .gtr t47_99 (Value.int IntKind.i64 0)) fun vv => kk vv w_100) w_100 fun t48_101 w_102 =>
    Pu (pickV t45_98 t48_101 (Value.bool false)) fun t49_103 =>
    IfB t49_103
      (Cl Tryz.prog 196 [r0, (Value.int IntKind.i64 11)] w_102 fun t51_104 w_105 =>
        k t51_104 w_105)
      (Pu (binV (TypeDesc.int IntKind.u8) .geq t34_92 (Value.int IntKind.u8 128)) fun t54_106 =>
        IfB t54_106
          (Pu (binV (TypeDesc.int IntKind.i64) .add t17_20 (Value.int IntKind.i64 1)) fun t73_107 =>
    I_13 [t42_97, t73_107] w_102 ∧ m_14 [t42_97, t73_107] w_102 < m_14 [n5_17, t17_20] w_77)
          (Pu (foldV0 max2V [most1, (Value.int IntKind.i64 0)]) fun t58_108 =>
            Pu (binV (TypeDesc.int IntKind.i64) .gtr t42_97 t58_108) fun t59_109 =>
            IfB t59_109
              (Cl Tryz.prog 196 [r0, (Value.int IntKind.i64 11)] w_102 fun t61_110 w_111 =>
                k t61_110 w_111)
              (Pu (nilV r0) fun t64_112 =>
    Pu (faV 0 t64_112) fun t65_113 =>
    Ld w_102 t65_113 fun t66_114 w_115 =>
    Pu (binV (TypeDesc.int IntKind.i64) .add t17_20 (Value.int IntKind.i64 1)) fun t68_116 =>
    Pu (slS t66_114 (some t68_116) none) fun t69_117 =>
    Pu (nilV r0) fun t70_118 =>
    Pu (faV 0 t70_118) fun t71_119 =>
    St 1 w_115 t71_119 t69_117 fun u_120 w_121 =>
    k t42_97 w_121)))))
      (Cl Tryz.prog 196 [r0, (Value.int IntKind.i64 11)] w_77 fun t75_122 w_123 =>
  k t75_122 w_123)))
theorem e150 (k : KV) (r0 : Value) (most1 : Value) (w : World) : K KD Tryz.prog 76 (fun j => bif Nat.beq j 5 then [5, 17] else []) (fun j =>  none) (Tryz.f150.body.getD .skip) (retQ Tryz.prog Tryz.f150 k) (argF [r0, most1]) w = T150 k r0 most1 w := by kernel_rfl
theorem c150 {k : KV} {r0 : Value} {most1 : Value} {w : World} (h : T150 k r0 most1 w) : Cl Tryz.prog 150 [r0, most1] w k :=
  Cl_of_K KD_sound mixed Tryz.func150 (by kernel_rfl) (by kernel_rfl) ((e150 k r0 most1 w).symm ▸ h)

/-- Function 151: (*almonry/bits.Reader).Text. -/
def T151 (k : KV) (r0 : Value) (most1 : Value) (w : World) : Prop :=
  Cl Tryz.prog 150 [r0, most1] w fun t9_1 w_2 =>
  Pu (binV (TypeDesc.pointer 221) .eql r0 (Value.pointer none)) fun t11_3 =>
  Gd (isB false t11_3) (fun kk => kk r0 w_2) w_2 fun t13_4 w_5 =>
  Gd (isB false t11_3) (fun kk => Pu (nilV t13_4) fun vv => kk vv w_5) w_5 fun t14_6 w_7 =>
  Gd (isB false t11_3) (fun kk => Pu (faV 1 t14_6) fun vv => kk vv w_7) w_7 fun t15_8 w_9 =>
  Gd (isB false t11_3) (fun kk => Ld w_9 t15_8 kk) w_9 fun t16_10 w_11 =>
  Gd (isB false t11_3) (fun kk => Pu (binV (TypeDesc.int IntKind.i64) .neq t16_10 (Value.int IntKind.i64 0)) fun vv => kk vv w_11) w_11 fun t17_12 w_13 =>
  Pu (pickV t11_3 (Value.bool true) t17_12) fun t18_14 =>
  IfB t18_14
    (k (Value.string (ByteArray.mk #[])) w_13)
    (Pu (nilV r0) fun t21_15 =>
  Pu (faV 0 t21_15) fun t22_16 =>
  Ld w_13 t22_16 fun t23_17 w_18 =>
  Pu (lenS t23_17) fun t24_19 =>
  Pu (binV (TypeDesc.int IntKind.i64) .gtr t9_1 t24_19) fun t25_20 =>
  IfB t25_20
    (Cl Tryz.prog 196 [r0, (Value.int IntKind.i64 10)] w_18 fun t27_21 w_22 =>
      k (Value.string (ByteArray.mk #[])) w_22)
    (Pu (nilV r0) fun t29_23 =>
  Pu (faV 0 t29_23) fun t30_24 =>
  Ld w_18 t30_24 fun t31_25 w_26 =>
  Pu (slS t31_25 none (some t9_1)) fun t33_27 =>
  Pu (nilV r0) fun t36_28 =>
  Pu (faV 0 t36_28) fun t37_29 =>
  Ld w_26 t37_29 fun t38_30 w_31 =>
  Pu (slS t38_30 (some t9_1) none) fun t40_32 =>
  Pu (nilV r0) fun t41_33 =>
  Pu (faV 0 t41_33) fun t42_34 =>
  St 1 w_31 t42_34 t40_32 fun u_35 w_36 =>
  k t33_27 w_36))
theorem e151 (k : KV) (r0 : Value) (most1 : Value) (w : World) : K KD Tryz.prog 44 (fun j =>  []) (fun j =>  none) (Tryz.f151.body.getD .skip) (retQ Tryz.prog Tryz.f151 k) (argF [r0, most1]) w = T151 k r0 most1 w := by kernel_rfl
theorem c151 {k : KV} {r0 : Value} {most1 : Value} {w : World} (h : T151 k r0 most1 w) : Cl Tryz.prog 151 [r0, most1] w k :=
  Cl_of_K KD_sound mixed Tryz.func151 (by kernel_rfl) (by kernel_rfl) ((e151 k r0 most1 w).symm ▸ h)

/-- Function 152: almonry/rec.list. -/
def T152 (k : KV) (r0 : Value) (most1 : Value) (w : World) : Prop :=
  Jn (fun vs_18 w_17 => ∀ g_19 : Fr, ∃ out5_2 : Value, vs_18 = [out5_2] ∧
      (k out5_2 w_17))
    (fun jj_1 =>
    Cl Tryz.prog 150 [r0, most1] w fun t8_20 w_21 =>
    ∃ (I_22 : List Value → World → Prop) (m_23 : List Value → World → Nat), I_22 [(Value.slice none 0 0), (Value.int IntKind.i64 0)] w_21 ∧
    ∀ (g_38 : Fr) (w_37 : World), ∀ out5_25 : Value, ∀ t9_26 : Value, I_22 [out5_25, t9_26] w_37 →
      (Pu (binV (TypeDesc.int IntKind.i64) .lss t9_26 t8_20) fun t10_39 =>
      IfB t10_39
        (Cl Tryz.prog 150 [r0, (Value.int IntKind.i64 4611686018427387904)] w_37 fun t13_40 w_41 =>
      RunS Tryz.prog (Instr.buildSlice 23 1 #[(0, t13_40)]) w_41 fun t14_42 w_43 =>
      RunS Tryz.prog (Builtin.append_ #[23, 23] 23 #[out5_25, t14_42]) w_43 fun t15_44 w_45 =>
      Cl Tryz.prog 153 [r0] w_45 fun t17_46 w_47 =>
      Pu (binV (TypeDesc.int IntKind.i64) .neq t17_46 (Value.int IntKind.i64 0)) fun t18_48 =>
      IfB t18_48
        (jj_1 [t15_44] w_47)
        (Pu (binV (TypeDesc.int IntKind.i64) .add t9_26 (Value.int IntKind.i64 1)) fun t19_49 =>
      I_22 [t15_44, t19_49] w_47 ∧ m_23 [t15_44, t19_49] w_47 < m_23 [out5_25, t9_26] w_37))
        (jj_1 [out5_25] w_37)))
theorem e152 (k : KV) (r0 : Value) (most1 : Value) (w : World) : K KD Tryz.prog 21 (fun j => bif Nat.beq j 3 then [5, 9] else []) (fun j => bif Nat.beq j 7 then some [5] else none) (Tryz.f152.body.getD .skip) (retQ Tryz.prog Tryz.f152 k) (argF [r0, most1]) w = T152 k r0 most1 w := by kernel_rfl
theorem c152 {k : KV} {r0 : Value} {most1 : Value} {w : World} (h : T152 k r0 most1 w) : Cl Tryz.prog 152 [r0, most1] w k :=
  Cl_of_K KD_sound mixed Tryz.func152 (by kernel_rfl) (by kernel_rfl) ((e152 k r0 most1 w).symm ▸ h)

/-- Function 153: (*almonry/bits.Reader).Err. -/
def T153 (k : KV) (r0 : Value) (w : World) : Prop :=
  Pu (binV (TypeDesc.pointer 221) .eql r0 (Value.pointer none)) fun t4_1 =>
  IfB t4_1
    (k (Value.int IntKind.i64 2) w)
    (Pu (nilV r0) fun t6_2 =>
  Pu (faV 1 t6_2) fun t7_3 =>
  Ld w t7_3 fun t8_4 w_5 =>
  k t8_4 w_5)
theorem e153 (k : KV) (r0 : Value) (w : World) : K KD Tryz.prog 9 (fun j =>  []) (fun j =>  none) (Tryz.f153.body.getD .skip) (retQ Tryz.prog Tryz.f153 k) (argF [r0]) w = T153 k r0 w := by kernel_rfl
theorem c153 {k : KV} {r0 : Value} {w : World} (h : T153 k r0 w) : Cl Tryz.prog 153 [r0] w k :=
  Cl_of_K KD_sound mixed Tryz.func153 (by kernel_rfl) (by kernel_rfl) ((e153 k r0 w).symm ▸ h)

/-- Function 154: (*almonry/bits.Reader).End. -/
def T154 (k : KV) (r0 : Value) (w : World) : Prop :=
  Cl Tryz.prog 153 [r0] w fun t4_1 w_2 =>
  Pu (binV (TypeDesc.int IntKind.i64) .eql t4_1 (Value.int IntKind.i64 0)) fun t5_3 =>
  Gd (isB true t5_3) (fun kk => kk r0 w_2) w_2 fun t7_4 w_5 =>
  Gd (isB true t5_3) (fun kk => Cl Tryz.prog 197 [t7_4] w_5 kk) w_5 fun t8_6 w_7 =>
  Gd (isB true t5_3) (fun kk => Pu (binV (TypeDesc.int IntKind.i64) .gtr t8_6 (Value.int IntKind.i64 0)) fun vv => kk vv w_7) w_7 fun t9_8 w_9 =>
  Pu (pickV t5_3 t9_8 (Value.bool false)) fun t10_10 =>
  IfB t10_10
    (k (Value.int IntKind.i64 12) w_9)
    (Cl Tryz.prog 153 [r0] w_9 fun t12_11 w_12 =>
  k t12_11 w_12)
theorem e154 (k : KV) (r0 : Value) (w : World) : K KD Tryz.prog 13 (fun j =>  []) (fun j =>  none) (Tryz.f154.body.getD .skip) (retQ Tryz.prog Tryz.f154 k) (argF [r0]) w = T154 k r0 w := by kernel_rfl
theorem c154 {k : KV} {r0 : Value} {w : World} (h : T154 k r0 w) : Cl Tryz.prog 154 [r0] w k :=
  Cl_of_K KD_sound mixed Tryz.func154 (by kernel_rfl) (by kernel_rfl) ((e154 k r0 w).symm ▸ h)

/-- Function 155: slices.ContainsFunc[[]int,int]. -/
def T155 (k : KV) (s0 : Value) (f1 : Value) (w : World) : Prop :=
  Cl Tryz.prog 198 [s0, f1] w fun t7_1 w_2 =>
  Pu (binV (TypeDesc.int IntKind.i64) .geq t7_1 (Value.int IntKind.i64 0)) fun t8_3 =>
  k t8_3 w_2
theorem e155 (k : KV) (s0 : Value) (f1 : Value) (w : World) : K KD Tryz.prog 9 (fun j =>  []) (fun j =>  none) (Tryz.f155.body.getD .skip) (retQ Tryz.prog Tryz.f155 k) (argF [s0, f1]) w = T155 k s0 f1 w := by kernel_rfl
theorem c155 {k : KV} {s0 : Value} {f1 : Value} {w : World} (h : T155 k s0 f1 w) : Cl Tryz.prog 155 [s0, f1] w k :=
  Cl_of_K KD_sound mixed Tryz.func155 (by kernel_rfl) (by kernel_rfl) ((e155 k s0 f1 w).symm ▸ h)

/-- Function 156: almonry/rec.numbers. -/
def T156 (k : KV) (r0 : Value) (w : World) : Prop :=
  New (Value.cells r0) 28 w fun r1_1 w_2 =>
  Pu (faV 0 r1_1) fun t10_3 =>
  Ld w_2 t10_3 fun t11_4 w_5 =>
  Pu (faV 1 r1_1) fun t12_6 =>
  Ld w_5 t12_6 fun t13_7 w_8 =>
  Pu (faV 2 r1_1) fun t14_9 =>
  Ld w_8 t14_9 fun t15_10 w_11 =>
  Pu (faV 9 r1_1) fun t16_12 =>
  Ld w_11 t16_12 fun t17_13 w_14 =>
  Pu (faV 4 r1_1) fun t18_15 =>
  Ld w_14 t18_15 fun t19_16 w_17 =>
  Pu (faV 5 r1_1) fun t20_18 =>
  Ld w_17 t20_18 fun t21_19 w_20 =>
  Pu (faV 6 r1_1) fun t22_21 =>
  Ld w_20 t22_21 fun t23_22 w_23 =>
  Pu (faV 7 r1_1) fun t24_24 =>
  Ld w_23 t24_24 fun t25_25 w_26 =>
  Pu (faV 8 r1_1) fun t26_27 =>
  Ld w_26 t26_27 fun t27_28 w_29 =>
  RunS Tryz.prog (Instr.buildSlice 23 9 #[(0, t11_4), (1, t13_7), (2, t15_10), (3, t17_13), (4, t19_16), (5, t21_19), (6, t23_22), (7, t25_25), (8, t27_28)]) w_29 fun t28_30 w_31 =>
  ∃ C_32 : World → Prop, C_32 (World.drew w_31) ∧
  (Pu (faV 11 r1_1) fun t30_33 =>
  Ld (World.drew w_31) t30_33 fun t31_34 w_35 =>
  w_35 = (World.drew w_31) ∧
  Pu (faV 12 r1_1) fun t33_36 =>
  ∃ t34_37, (∀ w_38, C_32 w_38 → Ld w_38 t33_36 fun t34_39 w_40 =>
  t34_39 = t34_37 ∧ w_40 = w_38) ∧
  (RunS Tryz.prog (Builtin.append_ #[23, 23] 23 #[t28_30, t31_34]) (World.drew w_31) fun t32_41 w_42 =>
  C_32 w_42 ∧
  (RunS Tryz.prog (Builtin.append_ #[23, 23] 23 #[t32_41, t34_37]) w_42 fun t35_43 w_44 =>
  Pu (faV 13 r1_1) fun t36_45 =>
  Ld w_44 t36_45 fun t37_46 w_47 =>
  Pu (lenV t37_46) fun t38_48 =>
  ∃ (I_49 : List Value → World → Prop) (m_50 : List Value → World → Nat), I_49 [t35_43, (Value.int IntKind.i64 0)] w_47 ∧
  ∀ (g_65 : Fr) (w_64 : World), ∀ l3_52 : Value, ∀ t39_54 : Value, I_49 [l3_52, t39_54] w_64 →
    (Pu (binV (TypeDesc.int IntKind.i64) .lss t39_54 t38_48) fun t40_66 =>
    IfB t40_66
      (Pu (ixV 7 t37_46 t39_54) fun t41_67 =>
    LdN 7 w_64 t41_67 fun t42_68 w_69 =>
    New #[(Value.int IntKind.i64 0), (Value.int IntKind.i64 0), (Value.int IntKind.i64 0), (Value.int IntKind.i64 0), (Value.int IntKind.i64 0), (Value.string (ByteArray.mk #[])), (Value.slice none 0 0)] 118 w_69 fun m5_70 w_71 =>
    St 7 w_71 m5_70 t42_68 fun u_72 w_73 =>
    Pu (faV 0 m5_70) fun t44_74 =>
    Ld w_73 t44_74 fun t45_75 w_76 =>
    RunS Tryz.prog (Instr.buildSlice 23 1 #[(0, t45_75)]) w_76 fun t46_77 w_78 =>
    RunS Tryz.prog (Builtin.append_ #[23, 23] 23 #[l3_52, t46_77]) w_78 fun t47_79 w_80 =>
    Pu (binV (TypeDesc.int IntKind.i64) .add t39_54 (Value.int IntKind.i64 1)) fun t48_81 =>
    I_49 [t47_79, t48_81] w_80 ∧ m_50 [t47_79, t48_81] w_80 < m_50 [l3_52, t39_54] w_64)
      (Pu (faV 14 r1_1) fun t49_82 =>
  Ld w_64 t49_82 fun t50_83 w_84 =>
  Pu (lenV t50_83) fun t51_85 =>
  ∃ (I_86 : List Value → World → Prop) (m_87 : List Value → World → Nat), I_86 [l3_52, (Value.int IntKind.i64 0)] w_84 ∧
  ∀ (g_104 : Fr) (w_103 : World), ∀ l3_89 : Value, ∀ t52_91 : Value, I_86 [l3_89, t52_91] w_103 →
    (Pu (binV (TypeDesc.int IntKind.i64) .lss t52_91 t51_85) fun t53_105 =>
    IfB t53_105
      (Pu (ixV 2 t50_83 t52_91) fun t54_106 =>
    LdN 2 w_103 t54_106 fun t55_107 w_108 =>
    New #[(Value.int IntKind.i64 0), (Value.int IntKind.i64 0)] 120 w_108 fun p7_109 w_110 =>
    St 2 w_110 p7_109 t55_107 fun u_111 w_112 =>
    Pu (faV 0 p7_109) fun t57_113 =>
    Ld w_112 t57_113 fun t58_114 w_115 =>
    Pu (faV 1 p7_109) fun t59_116 =>
    Ld w_115 t59_116 fun t60_117 w_118 =>
    RunS Tryz.prog (Instr.buildSlice 23 2 #[(0, t58_114), (1, t60_117)]) w_118 fun t61_119 w_120 =>
    RunS Tryz.prog (Builtin.append_ #[23, 23] 23 #[l3_89, t61_119]) w_120 fun t62_121 w_122 =>
    Pu (binV (TypeDesc.int IntKind.i64) .add t52_91 (Value.int IntKind.i64 1)) fun t63_123 =>
    I_86 [t62_121, t63_123] w_122 ∧ m_87 [t62_121, t63_123] w_122 < m_87 [l3_89, t52_91] w_103)
      (Pu (faV 15 r1_1) fun t64_124 =>
  Ld w_103 t64_124 fun t65_125 w_126 =>
  Pu (lenV t65_125) fun t66_127 =>
  ∃ (I_128 : List Value → World → Prop) (m_129 : List Value → World → Nat), I_128 [l3_89, (Value.int IntKind.i64 0)] w_126 ∧
  ∀ (g_146 : Fr) (w_145 : World), ∀ l3_131 : Value, ∀ t67_133 : Value, I_128 [l3_131, t67_133] w_145 →
    (Pu (binV (TypeDesc.int IntKind.i64) .lss t67_133 t66_127) fun t68_147 =>
    IfB t68_147
      (Pu (ixV 2 t65_125 t67_133) fun t69_148 =>
    LdN 2 w_145 t69_148 fun t70_149 w_150 =>
    New #[(Value.int IntKind.i64 0), (Value.int IntKind.i64 0)] 122 w_150 fun t9_151 w_152 =>
    St 2 w_152 t9_151 t70_149 fun u_153 w_154 =>
    Pu (faV 0 t9_151) fun t72_155 =>
    Ld w_154 t72_155 fun t73_156 w_157 =>
    Pu (faV 1 t9_151) fun t74_158 =>
    Ld w_157 t74_158 fun t75_159 w_160 =>
    RunS Tryz.prog (Instr.buildSlice 23 2 #[(0, t73_156), (1, t75_159)]) w_160 fun t76_161 w_162 =>
    RunS Tryz.prog (Builtin.append_ #[23, 23] 23 #[l3_131, t76_161]) w_162 fun t77_163 w_164 =>
    Pu (binV (TypeDesc.int IntKind.i64) .add t67_133 (Value.int IntKind.i64 1)) fun t78_165 =>
    I_128 [t77_163, t78_165] w_164 ∧ m_129 [t77_163, t78_165] w_164 < m_129 [l3_131, t67_133] w_145)
      (k l3_131 w_145)))))))))
theorem e156 (k : KV) (r0 : Value) (w : World) : K KD Tryz.prog 80 (fun j => bif Nat.beq j 14 then [3, 67] else bif Nat.beq j 9 then [3, 52] else bif Nat.beq j 4 then [3, 39] else []) (fun j =>  none) (Tryz.f156.body.getD .skip) (retQ Tryz.prog Tryz.f156 k) (argF [r0]) w = T156 k r0 w := by kernel_rfl
theorem c156 {k : KV} {r0 : Value} {w : World} (h : T156 k r0 w) : Cl Tryz.prog 156 [r0] w k :=
  Cl_of_K KD_sound mixed Tryz.func156 (by kernel_rfl) (by kernel_rfl) ((e156 k r0 w).symm ▸ h)

/-- Function 157: almonry/rec.checked$1. -/
def T157 (k : KV) (n0 : Value) (w : World) : Prop :=
  Pu (binV (TypeDesc.int IntKind.i64) .lss n0 (Value.int IntKind.i64 0)) fun t4_1 =>
  Gd (isB false t4_1) (fun kk => kk n0 w) w fun t6_2 w_3 =>
  Gd (isB false t4_1) (fun kk => Pu (binV (TypeDesc.int IntKind.i64) .gtr t6_2 (Value.int IntKind.i64 4611686018427387904)) fun vv => kk vv w_3) w_3 fun t7_4 w_5 =>
  Pu (pickV t4_1 (Value.bool true) t7_4) fun t8_6 =>
  k t8_6 w_5
theorem e157 (k : KV) (n0 : Value) (w : World) : K KD Tryz.prog 9 (fun j =>  []) (fun j =>  none) (Tryz.f157.body.getD .skip) (retQ Tryz.prog Tryz.f157 k) (argF [n0]) w = T157 k n0 w := by kernel_rfl
theorem c157 {k : KV} {n0 : Value} {w : World} (h : T157 k n0 w) : Cl Tryz.prog 157 [n0] w k :=
  Cl_of_K KD_sound mixed Tryz.func157 (by kernel_rfl) (by kernel_rfl) ((e157 k n0 w).symm ▸ h)

/-- Function 158: almonry/rec.inner. -/
def T158 (k : KV) (r0 : Value) (w : World) : Prop :=
  New (Value.cells r0) 28 w fun r1_1 w_2 =>
  Cl Tryz.prog 199 [] w_2 fun t16_3 w_4 =>
  Pu (faV 0 r1_1) fun t18_5 =>
  Ld w_4 t18_5 fun t19_6 w_7 =>
  Pu (faV 1 r1_1) fun t20_8 =>
  Ld w_7 t20_8 fun t21_9 w_10 =>
  Pu (faV 2 r1_1) fun t22_11 =>
  Ld w_10 t22_11 fun t23_12 w_13 =>
  Pu (faV 3 r1_1) fun t24_14 =>
  Ld w_13 t24_14 fun t25_15 w_16 =>
  Pu (cvI IntKind.i64 t25_15) fun t26_17 =>
  Pu (faV 4 r1_1) fun t27_18 =>
  Ld w_16 t27_18 fun t28_19 w_20 =>
  Pu (faV 5 r1_1) fun t29_21 =>
  Ld w_20 t29_21 fun t30_22 w_23 =>
  Pu (faV 6 r1_1) fun t31_24 =>
  Ld w_23 t31_24 fun t32_25 w_26 =>
  Pu (faV 7 r1_1) fun t33_27 =>
  Ld w_26 t33_27 fun t34_28 w_29 =>
  Pu (faV 8 r1_1) fun t35_30 =>
  Ld w_29 t35_30 fun t36_31 w_32 =>
  Pu (faV 9 r1_1) fun t37_33 =>
  Ld w_32 t37_33 fun t38_34 w_35 =>
  RunS Tryz.prog (Instr.buildSlice 23 10 #[(0, t19_6), (1, t21_9), (2, t23_12), (3, t26_17), (4, t28_19), (5, t30_22), (6, t32_25), (7, t34_28), (8, t36_31), (9, t38_34)]) w_35 fun t39_36 w_37 =>
  Cl Tryz.prog 200 [t16_3, t39_36] w_37 fun t40_38 w_39 =>
  Pu (faV 10 r1_1) fun t42_40 =>
  Ld w_39 t42_40 fun t43_41 w_42 =>
  Cl Tryz.prog 201 [t16_3, t43_41] w_42 fun t44_43 w_44 =>
  Pu (faV 11 r1_1) fun t45_45 =>
  Ld w_44 t45_45 fun t46_46 w_47 =>
  Pu (faV 12 r1_1) fun t47_48 =>
  Ld w_47 t47_48 fun t48_49 w_50 =>
  RunS Tryz.prog (Instr.build 227 #[(0, t46_46), (1, t48_49)]) w_50 fun t49_51 w_52 =>
  ∃ (I_53 : List Value → World → Prop) (m_54 : List Value → World → Nat), I_53 [(Value.int IntKind.i64 0)] w_52 ∧
  ∀ (g_70 : Fr) (w_69 : World), ∀ t50_57 : Value, I_53 [t50_57] w_69 →
    (Pu (binV (TypeDesc.int IntKind.i64) .lss t50_57 (Value.int IntKind.i64 2)) fun t51_71 =>
    IfB t51_71
      (Pu (ixG false 2 1 t49_51 t50_57) fun t52_72 =>
    Pu (lenV t52_72) fun t55_73 =>
    RunS Tryz.prog (Instr.buildSlice 23 1 #[(0, t55_73)]) w_69 fun t56_74 w_75 =>
    Cl Tryz.prog 200 [t16_3, t56_74] w_75 fun t57_76 w_77 =>
    Cl Tryz.prog 200 [t16_3, t52_72] w_77 fun t60_78 w_79 =>
    Pu (binV (TypeDesc.int IntKind.i64) .add t50_57 (Value.int IntKind.i64 1)) fun t61_80 =>
    I_53 [t61_80] w_79 ∧ m_54 [t61_80] w_79 < m_54 [t50_57] w_69)
      (Pu (faV 13 r1_1) fun t63_81 =>
  Ld w_69 t63_81 fun t64_82 w_83 =>
  Pu (lenV t64_82) fun t65_84 =>
  RunS Tryz.prog (Instr.buildSlice 23 1 #[(0, t65_84)]) w_83 fun t66_85 w_86 =>
  Cl Tryz.prog 200 [t16_3, t66_85] w_86 fun t67_87 w_88 =>
  Pu (faV 13 r1_1) fun t68_89 =>
  Ld w_88 t68_89 fun t69_90 w_91 =>
  Pu (lenV t69_90) fun t70_92 =>
  ∃ (I_93 : List Value → World → Prop) (m_94 : List Value → World → Nat), I_93 [(Value.int IntKind.i64 0)] w_91 ∧
  ∀ (g_125 : Fr) (w_124 : World), ∀ t71_101 : Value, I_93 [t71_101] w_124 →
    (Pu (binV (TypeDesc.int IntKind.i64) .lss t71_101 t70_92) fun t72_126 =>
    IfB t72_126
      (Pu (ixV 7 t69_90 t71_101) fun t73_127 =>
    LdN 7 w_124 t73_127 fun t74_128 w_129 =>
    New #[(Value.int IntKind.i64 0), (Value.int IntKind.i64 0), (Value.int IntKind.i64 0), (Value.int IntKind.i64 0), (Value.int IntKind.i64 0), (Value.string (ByteArray.mk #[])), (Value.slice none 0 0)] 118 w_129 fun m8_130 w_131 =>
    St 7 w_131 m8_130 t74_128 fun u_132 w_133 =>
    Pu (faV 1 m8_130) fun t76_134 =>
    LdN 6 w_133 t76_134 fun t77_135 w_136 =>
    Cl Tryz.prog 103 [t77_135] w_136 fun t78_137 w_138 =>
    Pu (extV t78_137 0) fun t79_139 =>
    Pu (extV t78_137 1) fun t80_140 =>
    Pu (binV (TypeDesc.int IntKind.i64) .neq t80_140 (Value.int IntKind.i64 0)) fun t82_141 =>
    IfB t82_141
      (k (.tuple #[(Value.string (ByteArray.mk #[])), t80_140]) w_138)
      (Pu (faV 0 m8_130) fun t85_142 =>
    Ld w_138 t85_142 fun t86_143 w_144 =>
    RunS Tryz.prog (Instr.buildSlice 23 1 #[(0, t86_143)]) w_144 fun t87_145 w_146 =>
    Cl Tryz.prog 200 [t16_3, t87_145] w_146 fun t88_147 w_148 =>
    Cl Tryz.prog 202 [t79_139, (Value.string (ByteArray.mk #[0]))] w_148 fun t91_149 w_150 =>
    Cl Tryz.prog 201 [t16_3, t91_149] w_150 fun t92_151 w_152 =>
    Pu (binV (TypeDesc.int IntKind.i64) .add t71_101 (Value.int IntKind.i64 1)) fun t93_153 =>
    I_93 [t93_153] w_152 ∧ m_94 [t93_153] w_152 < m_94 [t71_101] w_124))
      (Pu (faV 14 r1_1) fun t95_154 =>
  Ld w_124 t95_154 fun t96_155 w_156 =>
  Pu (lenV t96_155) fun t97_157 =>
  RunS Tryz.prog (Instr.buildSlice 23 1 #[(0, t97_157)]) w_156 fun t98_158 w_159 =>
  Cl Tryz.prog 200 [t16_3, t98_158] w_159 fun t99_160 w_161 =>
  Pu (faV 14 r1_1) fun t100_162 =>
  Ld w_161 t100_162 fun t101_163 w_164 =>
  Pu (lenV t101_163) fun t102_165 =>
  ∃ (I_166 : List Value → World → Prop) (m_167 : List Value → World → Nat), I_166 [(Value.int IntKind.i64 0)] w_164 ∧
  ∀ (g_183 : Fr) (w_182 : World), ∀ t103_170 : Value, I_166 [t103_170] w_182 →
    (Pu (binV (TypeDesc.int IntKind.i64) .lss t103_170 t102_165) fun t104_184 =>
    IfB t104_184
      (Pu (ixV 2 t101_163 t103_170) fun t105_185 =>
    LdN 2 w_182 t105_185 fun t106_186 w_187 =>
    New #[(Value.int IntKind.i64 0), (Value.int IntKind.i64 0)] 120 w_187 fun p12_188 w_189 =>
    St 2 w_189 p12_188 t106_186 fun u_190 w_191 =>
    Pu (faV 0 p12_188) fun t108_192 =>
    Ld w_191 t108_192 fun t109_193 w_194 =>
    Pu (faV 1 p12_188) fun t110_195 =>
    Ld w_194 t110_195 fun t111_196 w_197 =>
    RunS Tryz.prog (Instr.buildSlice 23 2 #[(0, t109_193), (1, t111_196)]) w_197 fun t112_198 w_199 =>
    Cl Tryz.prog 200 [t16_3, t112_198] w_199 fun t113_200 w_201 =>
    Pu (binV (TypeDesc.int IntKind.i64) .add t103_170 (Value.int IntKind.i64 1)) fun t114_202 =>
    I_166 [t114_202] w_201 ∧ m_167 [t114_202] w_201 < m_167 [t103_170] w_182)
      (Pu (faV 15 r1_1) fun t116_203 =>
  Ld w_182 t116_203 fun t117_204 w_205 =>
  Pu (lenV t117_204) fun t118_206 =>
  RunS Tryz.prog (Instr.buildSlice 23 1 #[(0, t118_206)]) w_205 fun t119_207 w_208 =>
  Cl Tryz.prog 200 [t16_3, t119_207] w_208 fun t120_209 w_210 =>
  Pu (faV 15 r1_1) fun t121_211 =>
  Ld w_210 t121_211 fun t122_212 w_213 =>
  Pu (lenV t122_212) fun t123_214 =>
  ∃ (I_215 : List Value → World → Prop) (m_216 : List Value → World → Nat), I_215 [(Value.int IntKind.i64 0)] w_213 ∧
  ∀ (g_232 : Fr) (w_231 : World), ∀ t124_219 : Value, I_215 [t124_219] w_231 →
    (Pu (binV (TypeDesc.int IntKind.i64) .lss t124_219 t123_214) fun t125_233 =>
    IfB t125_233
      (Pu (ixV 2 t122_212 t124_219) fun t126_234 =>
    LdN 2 w_231 t126_234 fun t127_235 w_236 =>
    New #[(Value.int IntKind.i64 0), (Value.int IntKind.i64 0)] 122 w_236 fun t14_237 w_238 =>
    St 2 w_238 t14_237 t127_235 fun u_239 w_240 =>
    Pu (faV 0 t14_237) fun t129_241 =>
    Ld w_240 t129_241 fun t130_242 w_243 =>
    Pu (faV 1 t14_237) fun t131_244 =>
    Ld w_243 t131_244 fun t132_245 w_246 =>
    RunS Tryz.prog (Instr.buildSlice 23 2 #[(0, t130_242), (1, t132_245)]) w_246 fun t133_247 w_248 =>
    Cl Tryz.prog 200 [t16_3, t133_247] w_248 fun t134_249 w_250 =>
    Pu (binV (TypeDesc.int IntKind.i64) .add t124_219 (Value.int IntKind.i64 1)) fun t135_251 =>
    I_215 [t135_251] w_250 ∧ m_216 [t135_251] w_250 < m_216 [t124_219] w_231)
      (Cl Tryz.prog 203 [t16_3] w_231 fun t137_252 w_253 =>
  Pu (lenS t137_252) fun t139_254 =>
  Pu (binV (TypeDesc.int IntKind.i64) .gtr t139_254 (Value.int IntKind.i64 65535)) fun t140_255 =>
  IfB t140_255
    (k (.tuple #[(Value.string (ByteArray.mk #[])), (Value.int IntKind.i64 3)]) w_253)
    (k (.tuple #[t137_252, (Value.int IntKind.i64 0)]) w_253)))))))))
theorem e158 (k : KV) (r0 : Value) (w : World) : K KD Tryz.prog 142 (fun j => bif Nat.beq j 28 then [124] else bif Nat.beq j 22 then [103] else bif Nat.beq j 12 then [71] else bif Nat.beq j 5 then [50] else []) (fun j =>  none) (Tryz.f158.body.getD .skip) (retQ Tryz.prog Tryz.f158 k) (argF [r0]) w = T158 k r0 w := by kernel_rfl
theorem c158 {k : KV} {r0 : Value} {w : World} (h : T158 k r0 w) : Cl Tryz.prog 158 [r0] w k :=
  Cl_of_K KD_sound mixed Tryz.func158 (by kernel_rfl) (by kernel_rfl) ((e158 k r0 w).symm ▸ h)

/-- Function 182: strings.trimRightByte. -/
def T182 (k : KV) (s0 : Value) (c1 : Value) (w : World) : Prop :=
  ∃ (I_1 : List Value → World → Prop) (m_2 : List Value → World → Nat), I_1 [s0] w ∧
  ∀ (g_23 : Fr) (w_22 : World), ∀ s0_4 : Value, I_1 [s0_4] w_22 →
    (Pu (lenS s0_4) fun t6_24 =>
    Pu (binV (TypeDesc.int IntKind.i64) .gtr t6_24 (Value.int IntKind.i64 0)) fun t7_25 =>
    Gd (isB true t7_25) (fun kk => kk s0_4 w_22) w_22 fun t9_26 w_27 =>
    Gd (isB true t7_25) (fun kk => kk s0_4 w_27) w_27 fun t10_28 w_29 =>
    Gd (isB true t7_25) (fun kk => Pu (lenS t10_28) fun vv => kk vv w_29) w_29 fun t11_30 w_31 =>
    Gd (isB true t7_25) (fun kk => Pu (binV (TypeDesc.int IntKind.i64) .sub t11_30 (Value.int IntKind.i64 1)) fun vv => kk vv w_31) w_31 fun t12_32 w_33 =>
    Gd (isB true t7_25) (fun kk => Pu (ixS t9_26 t12_32) fun vv => kk vv w_33) w_33 fun t13_34 w_35 =>
    Gd (isB true t7_25) (fun kk => kk c1 w_35) w_35 fun t14_36 w_37 =>
    Gd (isB true t7_25) (fun kk => Pu (binV (TypeDesc.int IntKind.u8) .eql t13_34 t14_36) fun vv => kk vv w_37) w_37 fun t15_38 w_39 =>
    Pu (pickV t7_25 t15_38 (Value.bool false)) fun t16_40 =>
    IfB t16_40
      (Pu (lenS s0_4) fun t19_41 =>
    Pu (binV (TypeDesc.int IntKind.i64) .sub t19_41 (Value.int IntKind.i64 1)) fun t20_42 =>
    Pu (slS s0_4 none (some t20_42)) fun t21_43 =>
    I_1 [t21_43] w_39 ∧ m_2 [t21_43] w_39 < m_2 [s0_4] w_22)
      (k s0_4 w_39))
theorem e182 (k : KV) (s0 : Value) (c1 : Value) (w : World) : K KD Tryz.prog 23 (fun j => bif Nat.beq j 1 then [0] else []) (fun j =>  none) (Tryz.f182.body.getD .skip) (retQ Tryz.prog Tryz.f182 k) (argF [s0, c1]) w = T182 k s0 c1 w := by kernel_rfl
theorem c182 {k : KV} {s0 : Value} {c1 : Value} {w : World} (h : T182 k s0 c1 w) : Cl Tryz.prog 182 [s0, c1] w k :=
  Cl_of_K KD_sound mixed Tryz.func182 (by kernel_rfl) (by kernel_rfl) ((e182 k s0 c1 w).symm ▸ h)

/-- Function 196: (*almonry/bits.Reader).fail. -/
def T196 (k : KV) (r0 : Value) (e1 : Value) (w : World) : Prop :=
  Pu (nilV r0) fun t8_1 =>
  Pu (faV 0 t8_1) fun t9_2 =>
  St 1 w t9_2 (Value.string (ByteArray.mk #[])) fun u_3 w_4 =>
  Pu (nilV r0) fun t10_5 =>
  Pu (faV 1 t10_5) fun t11_6 =>
  St 1 w_4 t11_6 e1 fun u_7 w_8 =>
  k (Value.int IntKind.i64 0) w_8
theorem e196 (k : KV) (r0 : Value) (e1 : Value) (w : World) : K KD Tryz.prog 12 (fun j =>  []) (fun j =>  none) (Tryz.f196.body.getD .skip) (retQ Tryz.prog Tryz.f196 k) (argF [r0, e1]) w = T196 k r0 e1 w := by kernel_rfl
theorem c196 {k : KV} {r0 : Value} {e1 : Value} {w : World} (h : T196 k r0 e1 w) : Cl Tryz.prog 196 [r0, e1] w k :=
  Cl_of_K KD_sound mixed Tryz.func196 (by kernel_rfl) (by kernel_rfl) ((e196 k r0 e1 w).symm ▸ h)

/-- Function 197: (*almonry/bits.Reader).Left. -/
def T197 (k : KV) (r0 : Value) (w : World) : Prop :=
  Pu (binV (TypeDesc.pointer 221) .eql r0 (Value.pointer none)) fun t4_1 =>
  IfB t4_1
    (k (Value.int IntKind.i64 0) w)
    (Pu (nilV r0) fun t6_2 =>
  Pu (faV 0 t6_2) fun t7_3 =>
  Ld w t7_3 fun t8_4 w_5 =>
  Pu (lenS t8_4) fun t9_6 =>
  k t9_6 w_5)
theorem e197 (k : KV) (r0 : Value) (w : World) : K KD Tryz.prog 10 (fun j =>  []) (fun j =>  none) (Tryz.f197.body.getD .skip) (retQ Tryz.prog Tryz.f197 k) (argF [r0]) w = T197 k r0 w := by kernel_rfl
theorem c197 {k : KV} {r0 : Value} {w : World} (h : T197 k r0 w) : Cl Tryz.prog 197 [r0] w k :=
  Cl_of_K KD_sound mixed Tryz.func197 (by kernel_rfl) (by kernel_rfl) ((e197 k r0 w).symm ▸ h)

/-- Function 198: slices.IndexFunc[[]int,int]. -/
def T198 (k : KV) (s0 : Value) (f1 : Value) (w : World) : Prop :=
  Pu (lenV s0) fun t7_1 =>
  ∃ (I_2 : List Value → World → Prop) (m_3 : List Value → World → Nat), I_2 [(Value.int IntKind.i64 0)] w ∧
  ∀ (g_19 : Fr) (w_18 : World), ∀ t8_7 : Value, I_2 [t8_7] w_18 →
    (Pu (binV (TypeDesc.int IntKind.i64) .lss t8_7 t7_1) fun t9_20 =>
    IfB t9_20
      (Pu (ixV 1 s0 t8_7) fun t14_21 =>
    Ld w_18 t14_21 fun t15_22 w_23 =>
    ClV Tryz.prog f1 [t15_22] w_23 fun t16_24 w_25 =>
    IfB t16_24
      (k t8_7 w_25)
      (Pu (binV (TypeDesc.int IntKind.i64) .add t8_7 (Value.int IntKind.i64 1)) fun t18_26 =>
    I_2 [t18_26] w_25 ∧ m_3 [t18_26] w_25 < m_3 [t8_7] w_18))
      (k (Value.int IntKind.i64 (-1)) w_18))
theorem e198 (k : KV) (s0 : Value) (f1 : Value) (w : World) : K KD Tryz.prog 19 (fun j => bif Nat.beq j 2 then [8] else []) (fun j =>  none) (Tryz.f198.body.getD .skip) (retQ Tryz.prog Tryz.f198 k) (argF [s0, f1]) w = T198 k s0 f1 w := by kernel_rfl
theorem c198 {k : KV} {s0 : Value} {f1 : Value} {w : World} (h : T198 k s0 f1 w) : Cl Tryz.prog 198 [s0, f1] w k :=
  Cl_of_K KD_sound mixed Tryz.func198 (by kernel_rfl) (by kernel_rfl) ((e198 k s0 f1 w).symm ▸ h)

/-- Function 199: almonry/bits.New. -/
def T199 (k : KV) (w : World) : Prop :=
  RunS Tryz.prog (Instr.build 243 #[]) w fun t1_1 w_2 =>
  New (Value.cells t1_1) 243 w_2 fun t2_3 w_4 =>
  k t2_3 w_4
theorem e199 (k : KV) (w : World) : K KD Tryz.prog 3 (fun j =>  []) (fun j =>  none) (Tryz.f199.body.getD .skip) (retQ Tryz.prog Tryz.f199 k) (argF []) w = T199 k  w := by kernel_rfl
theorem c199 {k : KV} {w : World} (h : T199 k  w) : Cl Tryz.prog 199 [] w k :=
  Cl_of_K KD_sound mixed Tryz.func199 (by kernel_rfl) (by kernel_rfl) ((e199 k  w).symm ▸ h)

/-- Function 200: (*almonry/bits.Writer).Num. -/
def T200 (k : KV) (wv0 : Value) (ns1 : Value) (w : World) : Prop :=
  Pu (binV (TypeDesc.pointer 243) .eql wv0 (Value.pointer none)) fun t7_1 =>
  IfB t7_1
    (k (.tuple #[]) w)
    (Pu (lenV ns1) fun t9_2 =>
  ∃ (I_3 : List Value → World → Prop) (m_4 : List Value → World → Nat), I_3 [(Value.int IntKind.i64 0)] w ∧
  ∀ (g_42 : Fr) (w_41 : World), ∀ t10_7 : Value, I_3 [t10_7] w_41 →
    (Pu (binV (TypeDesc.int IntKind.i64) .lss t10_7 t9_2) fun t11_43 =>
    IfB t11_43
      (Pu (ixV 1 ns1 t10_7) fun t12_44 =>
    Ld w_41 t12_44 fun t13_45 w_46 =>
    Pu (foldV0 max2V [t13_45, (Value.int IntKind.i64 0)]) fun t15_47 =>
    ∃ (I_48 : List Value → World → Prop) (m_49 : List Value → World → Nat), I_48 [t15_47] w_46 ∧
    ∀ (g_69 : Fr) (w_68 : World), ∀ n5_51 : Value, I_48 [n5_51] w_68 →
      (Pu (binV (TypeDesc.int IntKind.i64) .gtr n5_51 (Value.int IntKind.i64 127)) fun t17_70 =>
      IfB t17_70
        (Pu (nilV wv0) fun t22_71 =>
      Pu (faV 0 t22_71) fun t23_72 =>
      Ld w_68 t23_72 fun t24_73 w_74 =>
      Pu (cvI IntKind.u8 n5_51) fun t26_75 =>
      Pu (binV (TypeDesc.int IntKind.u8) .or t26_75 (Value.int IntKind.u8 128)) fun t27_76 =>
      RunS Tryz.prog (Instr.buildSlice 123 1 #[(0, t27_76)]) w_74 fun t28_77 w_78 =>
      RunS Tryz.prog (Builtin.append_ #[123, 123] 123 #[t24_73, t28_77]) w_78 fun t29_79 w_80 =>
      Pu (nilV wv0) fun t30_81 =>
      Pu (faV 0 t30_81) fun t31_82 =>
      St 1 w_80 t31_82 t29_79 fun u_83 w_84 =>
      Pu (binV (TypeDesc.int IntKind.i64) .shr n5_51 (Value.int IntKind.u64 7)) fun t19_85 =>
      I_48 [t19_85] w_84 ∧ m_49 [t19_85] w_84 < m_49 [n5_51] w_68)
        (Pu (nilV wv0) fun t34_86 =>
    Pu (faV 0 t34_86) fun t35_87 =>
    Ld w_68 t35_87 fun t36_88 w_89 =>
    Pu (cvI IntKind.u8 n5_51) fun t38_90 =>
    RunS Tryz.prog (Instr.buildSlice 123 1 #[(0, t38_90)]) w_89 fun t39_91 w_92 =>
    RunS Tryz.prog (Builtin.append_ #[123, 123] 123 #[t36_88, t39_91]) w_92 fun t40_93 w_94 =>
    Pu (nilV wv0) fun t41_95 =>
    Pu (faV 0 t41_95) fun t42_96 =>
    St 1 w_94 t42_96 t40_93 fun u_97 w_98 =>
    Pu (binV (TypeDesc.int IntKind.i64) .add t10_7 (Value.int IntKind.i64 1)) fun t43_99 =>
    I_3 [t43_99] w_98 ∧ m_4 [t43_99] w_98 < m_4 [t10_7] w_41)))
      (k (.tuple #[]) w_41)))
theorem e200 (k : KV) (wv0 : Value) (ns1 : Value) (w : World) : K KD Tryz.prog 44 (fun j => bif Nat.beq j 5 then [5] else bif Nat.beq j 2 then [10] else []) (fun j =>  none) (Tryz.f200.body.getD .skip) (retQ Tryz.prog Tryz.f200 k) (argF [wv0, ns1]) w = T200 k wv0 ns1 w := by kernel_rfl
theorem c200 {k : KV} {wv0 : Value} {ns1 : Value} {w : World} (h : T200 k wv0 ns1 w) : Cl Tryz.prog 200 [wv0, ns1] w k :=
  Cl_of_K KD_sound mixed Tryz.func200 (by kernel_rfl) (by kernel_rfl) ((e200 k wv0 ns1 w).symm ▸ h)

/-- Function 201: (*almonry/bits.Writer).Text. -/
def T201 (k : KV) (wv0 : Value) (s1 : Value) (w : World) : Prop :=
  Pu (binV (TypeDesc.pointer 243) .eql wv0 (Value.pointer none)) fun t5_1 =>
  IfB t5_1
    (k (.tuple #[]) w)
    (Pu (lenS s1) fun t8_2 =>
  RunS Tryz.prog (Instr.buildSlice 23 1 #[(0, t8_2)]) w fun t9_3 w_4 =>
  Cl Tryz.prog 200 [wv0, t9_3] w_4 fun t10_5 w_6 =>
  Pu (nilV wv0) fun t13_7 =>
  Pu (faV 0 t13_7) fun t14_8 =>
  Ld w_6 t14_8 fun t15_9 w_10 =>
  RunS Tryz.prog (Builtin.append_ #[123, 9] 123 #[t15_9, s1]) w_10 fun t17_11 w_12 =>
  Pu (nilV wv0) fun t18_13 =>
  Pu (faV 0 t18_13) fun t19_14 =>
  St 1 w_12 t19_14 t17_11 fun u_15 w_16 =>
  k (.tuple #[]) w_16)
theorem e201 (k : KV) (wv0 : Value) (s1 : Value) (w : World) : K KD Tryz.prog 20 (fun j =>  []) (fun j =>  none) (Tryz.f201.body.getD .skip) (retQ Tryz.prog Tryz.f201 k) (argF [wv0, s1]) w = T201 k wv0 s1 w := by kernel_rfl
theorem c201 {k : KV} {wv0 : Value} {s1 : Value} {w : World} (h : T201 k wv0 s1 w) : Cl Tryz.prog 201 [wv0, s1] w k :=
  Cl_of_K KD_sound mixed Tryz.func201 (by kernel_rfl) (by kernel_rfl) ((e201 k wv0 s1 w).symm ▸ h)

/-- Function 202: strings.TrimRight. -/
def T202 (k : KV) (s0 : Value) (cutset1 : Value) (w : World) : Prop :=
  Pu (binV TypeDesc.string .eql s0 (Value.string (ByteArray.mk #[]))) fun t8_1 =>
  Gd (isB false t8_1) (fun kk => kk cutset1 w) w fun t10_2 w_3 =>
  Gd (isB false t8_1) (fun kk => Pu (binV TypeDesc.string .eql t10_2 (Value.string (ByteArray.mk #[]))) fun vv => kk vv w_3) w_3 fun t11_4 w_5 =>
  Pu (pickV t8_1 (Value.bool true) t11_4) fun t12_6 =>
  IfB t12_6
    (k s0 w_5)
    (Pu (lenS cutset1) fun t15_7 =>
  Pu (binV (TypeDesc.int IntKind.i64) .eql t15_7 (Value.int IntKind.i64 1)) fun t16_8 =>
  Gd (isB true t16_8) (fun kk => kk cutset1 w_5) w_5 fun t18_9 w_10 =>
  Gd (isB true t16_8) (fun kk => Pu (ixS t18_9 (Value.int IntKind.i64 0)) fun vv => kk vv w_10) w_10 fun t19_11 w_12 =>
  Gd (isB true t16_8) (fun kk => Pu (binV (TypeDesc.int IntKind.u8) .lss t19_11 (Value.int IntKind.u8 128)) fun vv => kk vv w_12) w_12 fun t20_13 w_14 =>
  Pu (pickV t16_8 t20_13 (Value.bool false)) fun t21_15 =>
  IfB t21_15
    (Pu (ixS cutset1 (Value.int IntKind.i64 0)) fun t24_16 =>
      Cl Tryz.prog 182 [s0, t24_16] w_14 fun t25_17 w_18 =>
      k t25_17 w_18)
    (Cl Tryz.prog 183 [cutset1] w_14 fun t28_19 w_20 =>
  Pu (extV t28_19 0) fun t29_21 =>
  Pu (extV t28_19 1) fun t30_22 =>
  New #[(Value.bool false), (Value.bool false), (Value.bool false), (Value.bool false), (Value.bool false), (Value.bool false), (Value.bool false), (Value.bool false), (Value.bool false), (Value.bool false), (Value.bool false), (Value.bool false), (Value.bool false), (Value.bool false), (Value.bool false), (Value.bool false), (Value.bool false), (Value.bool false), (Value.bool false), (Value.bool false), (Value.bool false), (Value.bool false), (Value.bool false), (Value.bool false), (Value.bool false), (Value.bool false), (Value.bool false), (Value.bool false), (Value.bool false), (Value.bool false), (Value.bool false), (Value.bool false), (Value.bool false), (Value.bool false), (Value.bool false), (Value.bool false), (Value.bool false), (Value.bool false), (Value.bool false), (Value.bool false), (Value.bool false), (Value.bool false), (Value.bool false), (Value.bool false), (Value.bool false), (Value.bool false), (Value.bool false), (Value.bool false), (Value.bool false), (Value.bool false), (Value.bool false), (Value.bool false), (Value.bool false), (Value.bool false), (Value.bool false), (Value.bool false), (Value.bool false), (Value.bool false), (Value.bool false), (Value.bool false), (Value.bool false), (Value.bool false), (Value.bool false), (Value.bool false), (Value.bool false), (Value.bool false), (Value.bool false), (Value.bool false), (Value.bool false), (Value.bool false), (Value.bool false), (Value.bool false), (Value.bool false), (Value.bool false), (Value.bool false), (Value.bool false), (Value.bool false), (Value.bool false), (Value.bool false), (Value.bool false), (Value.bool false), (Value.bool false), (Value.bool false), (Value.bool false), (Value.bool false), (Value.bool false), (Value.bool false), (Value.bool false), (Value.bool false), (Value.bool false), (Value.bool false), (Value.bool false), (Value.bool false), (Value.bool false), (Value.bool false), (Value.bool false), (Value.bool false), (Value.bool false), (Value.bool false), (Value.bool false), (Value.bool false), (Value.bool false), (Value.bool false), (Value.bool false), (Value.bool false), (Value.bool false), (Value.bool false), (Value.bool false), (Value.bool false), (Value.bool false), (Value.bool false), (Value.bool false), (Value.bool false), (Value.bool false), (Value.bool false), (Value.bool false), (Value.bool false), (Value.bool false), (Value.bool false), (Value.bool false), (Value.bool false), (Value.bool false), (Value.bool false), (Value.bool false), (Value.bool false), (Value.bool false), (Value.bool false), (Value.bool false), (Value.bool false), (Value.bool false), (Value.bool false), (Value.bool false), (Value.bool false), (Value.bool false), (Value.bool false), (Value.bool false), (Value.bool false), (Value.bool false), (Value.bool false), (Value.bool false), (Value.bool false), (Value.bool false), (Value.bool false), (Value.bool false), (Value.bool false), (Value.bool false), (Value.bool false), (Value.bool false), (Value.bool false), (Value.bool false), (Value.bool false), (Value.bool false), (Value.bool false), (Value.bool false), (Value.bool false), (Value.bool false), (Value.bool false), (Value.bool false), (Value.bool false), (Value.bool false), (Value.bool false), (Value.bool false), (Value.bool false), (Value.bool false), (Value.bool false), (Value.bool false), (Value.bool false), (Value.bool false), (Value.bool false), (Value.bool false), (Value.bool false), (Value.bool false), (Value.bool false), (Value.bool false), (Value.bool false), (Value.bool false), (Value.bool false), (Value.bool false), (Value.bool false), (Value.bool false), (Value.bool false), (Value.bool false), (Value.bool false), (Value.bool false), (Value.bool false), (Value.bool false), (Value.bool false), (Value.bool false), (Value.bool false), (Value.bool false), (Value.bool false), (Value.bool false), (Value.bool false), (Value.bool false), (Value.bool false), (Value.bool false), (Value.bool false), (Value.bool false), (Value.bool false), (Value.bool false), (Value.bool false), (Value.bool false), (Value.bool false), (Value.bool false), (Value.bool false), (Value.bool false), (Value.bool false), (Value.bool false), (Value.bool false), (Value.bool false), (Value.bool false), (Value.bool false), (Value.bool false), (Value.bool false), (Value.bool false), (Value.bool false), (Value.bool false), (Value.bool false), (Value.bool false), (Value.bool false), (Value.bool false), (Value.bool false), (Value.bool false), (Value.bool false), (Value.bool false), (Value.bool false), (Value.bool false), (Value.bool false), (Value.bool false), (Value.bool false), (Value.bool false), (Value.bool false), (Value.bool false), (Value.bool false), (Value.bool false), (Value.bool false), (Value.bool false), (Value.bool false), (Value.bool false), (Value.bool false), (Value.bool false), (Value.bool false), (Value.bool false), (Value.bool false), (Value.bool false), (Value.bool false), (Value.bool false), (Value.bool false), (Value.bool false), (Value.bool false), (Value.bool false), (Value.bool false), (Value.bool false), (Value.bool false), (Value.bool false), (Value.bool false)] 212 w_20 fun as5_23 w_24 =>
  St 256 w_24 as5_23 t29_21 fun u_25 w_26 =>
  IfB t30_22
    (Cl Tryz.prog 185 [s0, as5_23] w_26 fun t33_27 w_28 =>
      k t33_27 w_28)
    (Cl Tryz.prog 187 [s0, cutset1] w_26 fun t36_29 w_30 =>
  k t36_29 w_30)))
theorem e202 (k : KV) (s0 : Value) (cutset1 : Value) (w : World) : K KD Tryz.prog 37 (fun j =>  []) (fun j =>  none) (Tryz.f202.body.getD .skip) (retQ Tryz.prog Tryz.f202 k) (argF [s0, cutset1]) w = T202 k s0 cutset1 w := by kernel_rfl
theorem c202 {k : KV} {s0 : Value} {cutset1 : Value} {w : World} (h : T202 k s0 cutset1 w) : Cl Tryz.prog 202 [s0, cutset1] w k :=
  Cl_of_K KD_sound mixed Tryz.func202 (by kernel_rfl) (by kernel_rfl) ((e202 k s0 cutset1 w).symm ▸ h)

/-- Function 203: (*almonry/bits.Writer).Bytes. -/
def T203 (k : KV) (wv0 : Value) (w : World) : Prop :=
  Pu (binV (TypeDesc.pointer 243) .eql wv0 (Value.pointer none)) fun t4_1 =>
  IfB t4_1
    (k (Value.string (ByteArray.mk #[])) w)
    (Pu (nilV wv0) fun t6_2 =>
  Pu (faV 0 t6_2) fun t7_3 =>
  Ld w t7_3 fun t8_4 w_5 =>
  RunS Tryz.prog (convert 123 9 t8_4) w_5 fun t9_6 w_7 =>
  k t9_6 w_7)
theorem e203 (k : KV) (wv0 : Value) (w : World) : K KD Tryz.prog 10 (fun j =>  []) (fun j =>  none) (Tryz.f203.body.getD .skip) (retQ Tryz.prog Tryz.f203 k) (argF [wv0]) w = T203 k wv0 w := by kernel_rfl
theorem c203 {k : KV} {wv0 : Value} {w : World} (h : T203 k wv0 w) : Cl Tryz.prog 203 [wv0] w k :=
  Cl_of_K KD_sound mixed Tryz.func203 (by kernel_rfl) (by kernel_rfl) ((e203 k wv0 w).symm ▸ h)

end Go.Proofs.YthbngnlmgplijaaGreatDoor
