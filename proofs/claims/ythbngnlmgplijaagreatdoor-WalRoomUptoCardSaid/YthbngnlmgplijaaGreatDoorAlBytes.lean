/- Texts as lists of bytes; rows of bytes. -/
import Derived.Test.YthbngnlmgplijaaGreatDoorAlSl
import Derived.Lib.AppendStr
import Derived.Lib.BufferWrite
import Derived.Laws.BytesArg
import Derived.Laws.MakeOwn
import Derived.Laws.IdiomStrings
namespace Go.Al
set_option linter.unusedVariables false
set_option linter.unusedSimpArgs false
set_option linter.unusedSectionVars false

abbrev Bs := List UInt8
def str (l : Bs) : ByteArray := ⟨l.toArray⟩
theorem str_size (l : Bs) : (str l).size = l.length := by simp [str, ByteArray.size]
theorem str_inj {a b : Bs} : str a = str b ↔ a = b := by
  constructor
  · intro h
    have h2 : (str a).data = (str b).data := by rw [h]
    simpa [str] using h2
  · rintro rfl; rfl
theorem str_append (a b : Bs) : str a ++ str b = str (a ++ b) := by
  apply ByteArray.ext
  simp [str, ByteArray.data_append]
theorem str_extract (l : Bs) (i j : Nat) : (str l).extract i j = str ((l.take j).drop i) := by
  apply ByteArray.ext
  apply Array.ext'
  rw [ByteArray.data_extract, Array.toList_extract]
  simp only [str, List.extract_eq_take_drop]
  rw [List.drop_take]
theorem str_data (s : ByteArray) : str s.data.toList = s := by
  apply ByteArray.ext
  simp [str]
theorem str_mk (l : Bs) : ByteArray.mk l.toArray = str l := rfl
theorem str_nil : ByteArray.mk #[] = str [] := rfl
theorem str_toList (l : Bs) : (str l).data.toList = l := rfl

abbrev stv (l : Bs) : Value := .string (str l)
theorem lenS_str (l : Bs) : lenS (stv l) = some (.int .i64 l.length) := by rw [lenS_s, str_size]
theorem binV_sadd (d : TypeDesc) (a b : Bs) (h : a.length + b.length ≤ 9223372036854775807) : binV d .add (stv a) (stv b) = some (stv (a ++ b)) := by
  have : ¬ (((str a).size + (str b).size : Nat) : Int) > IntKind.i64.max := by
    rw [str_size, str_size]; show ¬ _ > (9223372036854775807 : Int); omega
  simp only [binV, binS, if_neg this, str_append]
theorem binV_seqs (d : TypeDesc) (a b : Bs) : binV d .eql (stv a) (stv b) = some (.bool (decide (a = b))) := by
  rw [binV_seql]; simp only [str_inj]
theorem binV_snes (d : TypeDesc) (a b : Bs) : binV d .neq (stv a) (stv b) = some (.bool (!decide (a = b))) := by
  rw [binV_sneq]; simp only [str_inj]
theorem bnd_lo {y d i : Nat} (h : i ≤ y) (k : IntKind) : bnd y d (some (.int k i)) = some i := bnd_at h k
theorem slS_hi {l : Bs} {i : Nat} (h : i ≤ l.length) (k : IntKind) : slS (stv l) none (some (.int k i)) = some (stv (l.take i)) := by
  have e1 : bnd (str l).size (str l).size (some (.int k i)) = some i := bnd_at (by rw [str_size]; exact h) k
  have e2 : bnd i 0 none = some 0 := rfl
  simp only [slS, e1, e2, Option.bind_some, Option.map_some, str_extract, List.drop_zero]
theorem slS_lo {l : Bs} {i : Nat} (h : i ≤ l.length) (k : IntKind) : slS (stv l) (some (.int k i)) none = some (stv (l.drop i)) := by
  have e1 : bnd (str l).size (str l).size none = some (str l).size := rfl
  have e2 : bnd (str l).size 0 (some (.int k i)) = some i := bnd_at (by rw [str_size]; exact h) k
  rw [str_size] at e1 e2
  simp only [slS, str_size, e1, e2, Option.bind_some, Option.map_some, str_extract, List.take_length]
theorem slS_lh {l : Bs} {i j : Nat} (hij : i ≤ j) (h : j ≤ l.length) (k k' : IntKind) : slS (stv l) (some (.int k i)) (some (.int k' j)) = some (stv ((l.drop i).take (j - i))) := by
  have e1 : bnd (str l).size (str l).size (some (.int k' j)) = some j := bnd_at (by rw [str_size]; exact h) k'
  have e2 : bnd j 0 (some (.int k i)) = some i := bnd_at hij k
  simp only [slS, e1, e2, Option.bind_some, Option.map_some, str_extract, List.drop_take]

def bc (l : Bs) : List Value := l.map fun b => Value.int .u8 b.toNat
theorem bc_len (l : Bs) : (bc l).length = l.length := by simp [bc]
theorem bc_append (a b : Bs) : bc (a ++ b) = bc a ++ bc b := by simp [bc]
theorem bc_take (l : Bs) (i : Nat) : (bc l).take i = bc (l.take i) := by simp [bc, List.map_take]
theorem bc_drop (l : Bs) (i : Nat) : (bc l).drop i = bc (l.drop i) := by simp [bc, List.map_drop]
theorem bc_one (l : Bs) : ∀ u ∈ bc l, u.oneCell' = true := by
  intro u hu; obtain ⟨b, _, rfl⟩ := List.mem_map.1 hu; rfl
theorem bc_get (l : Bs) (i : Nat) : (bc l)[i]? = (l[i]?).map fun b => Value.int .u8 b.toNat := by simp [bc]
theorem bc_cells (s : ByteArray) : Lib.strCells s = bc s.data.toList := rfl

/-- What the tables say of bytes and texts: t the slice type, e the element, s the text. -/
structure ByteT (P : Program) (t e s : TypeId) : Prop where
  sl : P.underlying t = some (.slice e)
  u8 : P.underlying e = some (.int .u8)
  st : P.underlying s = some .string
  info : ∃ i, P.info? e = some i ∧ i.zero = some (.int .u8 0) ∧ i.size = 1 ∧ i.bytes = 1
theorem byteT_of {P : Program} {t e s : TypeId} (h1 : P.underlying t = some (.slice e)) (h2 : P.underlying e = some (.int .u8)) (h3 : P.underlying s = some .string)
    (hi : (P.info? e).map (fun i => (i.zero.map (fun z => match z with | .int .u8 0 => true | _ => false), i.size, i.bytes)) = some (some true, 1, 1)) : ByteT P t e s := by
  refine ⟨h1, h2, h3, ?_⟩
  cases hp : P.info? e with
  | none => rw [hp] at hi; cases hi
  | some i =>
    rw [hp] at hi
    simp only [Option.map_some, Option.some.injEq, Prod.mk.injEq] at hi
    cases hz : i.zero with
    | none => rw [hz] at hi; simp at hi
    | some z =>
      rw [hz] at hi
      simp only [Option.map_some, Option.some.injEq] at hi
      refine ⟨i, rfl, ?_, hi.2.1, hi.2.2⟩
      have := hi.1
      split at this
      · exact hz
      · cases this
theorem ByteT.elem {P : Program} {t e s : TypeId} (h : ByteT P t e s) : ElemT P t e 1 1 := by
  obtain ⟨i, h1, h2, h3, h4⟩ := h.info
  exact ⟨h.sl, i, _, h1, h2, h3, h4, rfl⟩

/-- Block g is a row of bytes. -/
def BRow (w : World) (g : Nat) (e : TypeId) (l : Bs) : Prop := w.heap[g]? = some (.cells (bc l).toArray e)
theorem BRow.keep {S : Nat → Prop} {w w' : World} {g : Nat} {e : TypeId} {l : Bs} (h : BRow w g e l) (hf : Fm S w w') (hs : ¬ S g) : BRow w' g e l := hf.heap h hs
theorem BRow.lt {w : World} {g : Nat} {e : TypeId} {l : Bs} (h : BRow w g e l) : g < w.heap.size := lt_of_heap h
theorem BRow.cell {w : World} {g : Nat} {e : TypeId} {l : Bs} (h : BRow w g e l) (i : Nat) : w.cell? ⟨g, i, none⟩ = (l[i]?).map fun b => Value.int .u8 b.toNat := by
  rw [cell_at h, List.getElem?_toArray, bc_get]

theorem BRow.make {P : Program} {t e s : TypeId} (B : ByteT P t e s) (w : World) (n : Nat) (h : n ≤ 281474976710656) :
    (Instr.makeSlice t (.int .i64 n) (.int .i64 n)).run P w = .ok (.slice (some ⟨w.heap.size, 0, none⟩) n n) (w.alloc (.cells (bc (List.replicate n 0)).toArray e)) := by
  obtain ⟨i, h1, h2, h3, h4⟩ := B.info
  have hr := run_make (P := P) w t e i _ B.sl h1 h2 .i64 .i64 n n (by omega) (Int.le_refl _) (by rw [h4]; omega) (by omega)
  rw [hr]
  congr 3
  simp only [Int.toNat_natCast]
  congr 1
  rw [h3, Nat.mul_one]
  apply Array.ext'
  apply List.ext_getElem?
  intro j
  simp only [madeCells, bc, List.map_replicate, Array.toList_map, Array.toList_range, List.getElem?_map, List.getElem?_replicate, List.getElem?_range]
  have hz : ∀ q, (Value.cells (.int .u8 0))[q % (Value.cells (.int .u8 0)).size]! = Value.int .u8 0 := by
    intro q
    have : (Value.cells (.int .u8 0)).size = 1 := rfl
    rw [this, Nat.mod_one]; rfl
  by_cases hj : j < n
  · rw [if_pos hj, List.getElem?_range hj]; simp [hz]
  · rw [if_neg hj, List.getElem?_eq_none (by simpa using hj)]; rfl

/-- 'string(b)'. -/
theorem BRow.conv {P : Program} {t e s : TypeId} (B : ByteT P t e s) {w : World} {g : Nat} {e' : TypeId} {l : Bs} (h : BRow w g e' l) {o n : Nat} (hn : o + n ≤ l.length) (c : Nat) :
    (convert t s (.slice (some ⟨g, o, none⟩) n c)).run P w = .ok (stv ((l.drop o).take n)) w := by
  have hr := run_convert_bytes_arg (P := P) w t e B.sl B.u8 g o n c (((l.drop o).take n).map fun b => (b.toNat : Int)) (by simp; omega) (fun i hi => by
    rw [h.cell]
    have : o + i < l.length := by omega
    simp [List.getD, List.getElem?_take, hi, List.getElem?_drop, this]) s B.st
  rw [hr]
  congr 2
  apply ByteArray.ext
  simp only [strOfNums, str, List.map_map]
  congr 1
  conv => rhs; rw [← List.map_id ((l.drop o).take n)]
  apply List.map_congr_left
  intro x _
  simp
theorem conv_nil {P : Program} {t e s : TypeId} (B : ByteT P t e s) (w : World) (n c : Nat) : (convert t s (.slice none n c)).run P w = .ok (stv []) w := by
  rw [run_convert_bytes_nil (P := P) w t e B.sl B.u8 n c s B.st]; rfl

/-- 'copy(b[o:], s)'. -/
theorem BRow.copyS {P : Program} {t e s : TypeId} (B : ByteT P t e s) {w : World} {g : Nat} {l : Bs} (h : BRow w g e l) {o n : Nat} {x : Bs} (hx : x.length ≤ n) (hn : o + x.length ≤ l.length) (c : Nat) (ty : TypeId) :
    ∃ w', (Builtin.copy_ #[t, s] ty #[.slice (some ⟨g, o, none⟩) n c, stv x]).run P w = .ok (goInt x.length) w' ∧ BRow w' g e (l.take o ++ x ++ l.drop (o + x.length)) ∧ w'.heap.size = w.heap.size ∧ Fm (· = g) w w' := by
  obtain ⟨i, h1, h2, h3, h4⟩ := B.info
  have hr := Lib.run_copy_row_string (P := P) w t s ty e g o n c (str x) _ e B.sl (by rw [h1]; simp [h3]) h (by rw [str_size]; exact hx) (by rw [str_size, List.size_toArray, bc_len]; exact hn)
  rw [str_size] at hr
  refine ⟨_, hr, ?_, ?_, ?_⟩
  · show (w.setRow g _).heap[g]? = _
    rw [setRow_heap w g _ _ e _ h]
    congr 2
    rw [show Lib.byteCells (str x).data.toList = bc x from rfl, bc_append, bc_append, bc_take, bc_drop]
  · simp
  · exact ⟨rfl, rfl, rfl, by simp, fun b hb hs => setRow_other w g b _ hs⟩

/-- 'copy(b[o:], c)'. -/
theorem BRow.copyB {P : Program} {t e s : TypeId} (B : ByteT P t e s) {w : World} {g g' : Nat} {e' : TypeId} {l l' : Bs} (h : BRow w g e l) (h' : BRow w g' e' l') {o n o' n' : Nat} {x : Bs} (hx : x = (l'.drop o').take (min n' n)) (hxl : x.length = min n' n) (hn : o + x.length ≤ l.length) (c c' : Nat) (ty : TypeId) :
    ∃ w', (Builtin.copy_ #[t, t] ty #[.slice (some ⟨g, o, none⟩) n c, .slice (some ⟨g', o', none⟩) n' c']).run P w = .ok (goInt x.length) w' ∧ BRow w' g e (l.take o ++ x ++ l.drop (o + x.length)) ∧ w'.heap.size = w.heap.size ∧ Fm (· = g) w w' := by
  obtain ⟨i, h1, h2, h3, h4⟩ := B.info
  have hr := run_copy_row (P := P) w t t ty e g o n c ⟨g', o', none⟩ n' c' _ e (bc x) B.sl (by rw [h1]; simp [h3]) h (by rw [bc_len]; exact hxl) (fun j v hj => by
    rw [add_none, h'.cell]
    rw [bc_get, hx, List.getElem?_take] at hj
    split at hj
    · rw [List.getElem?_drop] at hj; exact hj
    · cases hj) (by rw [bc_len, List.size_toArray, bc_len]; exact hn) (bc_one x)
  rw [bc_len] at hr
  refine ⟨_, hr, ?_, ?_, ?_⟩
  · show (w.setRow g _).heap[g]? = _
    rw [setRow_heap w g _ _ e _ h]
    congr 2
    rw [bc_append, bc_append, bc_take, bc_drop]
  · simp
  · exact ⟨rfl, rfl, rfl, by simp, fun b hb hs => setRow_other w g b _ hs⟩

/-- 'b[i] = x'. -/
theorem BRow.put {w : World} {g : Nat} {e : TypeId} {l : Bs} (h : BRow w g e l) {i : Nat} (hi : i < l.length) {b : UInt8} {k : KV}
    (hk : ∀ w', BRow w' g e (l.set i b) → w'.heap.size = w.heap.size → Fm (· = g) w w' → k undef w') : St 1 w (.pointer (some ⟨g, i, none⟩)) (.int .u8 b.toNat) k := by
  refine St_blk h (by rw [List.size_toArray, bc_len]; exact hi) rfl fun w' h1 h2 h3 => hk w' ?_ h2 h3
  unfold BRow
  rw [h1]
  congr 2
  apply Array.ext'
  simp only [Array.toList_setIfInBounds, bc, List.map_set]
theorem u8_wrap (n : Int) : ((UInt8.ofNat (IntKind.u8.wrap n).toNat).toNat : Int) = IntKind.u8.wrap n := by
  have h : 0 ≤ IntKind.u8.wrap n ∧ IntKind.u8.wrap n < 256 := by
    unfold IntKind.wrap; simp [IntKind.bits, IntKind.signed]; omega
  have e : (UInt8.ofNat (IntKind.u8.wrap n).toNat).toNat = (IntKind.u8.wrap n).toNat % 256 := by simp
  rw [e, Nat.mod_eq_of_lt (by omega)]; omega

/-- The head of block g is bytes that may be written. -/
def BX (w : World) (g : Nat) (e : TypeId) (l : Bs) : Prop := ∃ cs fz, w.heap[g]? = some (.cells cs e fz) ∧ cs.toList.take l.length = bc l ∧ l.length ≤ cs.size ∧ (fz = (0, 0) ∨ l.length ≤ fz.1)
theorem BX.of {w : World} {g : Nat} {e : TypeId} {l : Bs} (h : BRow w g e l) : BX w g e l := ⟨_, _, h, by rw [List.take_of_length_le (by rw [bc_len]; exact Nat.le_refl _)], by rw [List.size_toArray, bc_len]; exact Nat.le_refl _, .inl rfl⟩
theorem BX.keep {S : Nat → Prop} {w w' : World} {g : Nat} {e : TypeId} {l : Bs} (h : BX w g e l) (hf : Fm S w w') (hs : ¬ S g) : BX w' g e l := by
  obtain ⟨cs, fz, h1, h2⟩ := h
  exact ⟨cs, fz, hf.heap h1 hs, h2⟩
theorem BX.lt {w : World} {g : Nat} {e : TypeId} {l : Bs} (h : BX w g e l) : g < w.heap.size := by obtain ⟨cs, fz, h1, h2⟩ := h; exact lt_of_heap h1
theorem BX.cell {w : World} {g : Nat} {e : TypeId} {l : Bs} (h : BX w g e l) {i : Nat} {b : UInt8} (hi : l[i]? = some b) : w.cell? ⟨g, i, none⟩ = some (.int .u8 b.toNat) := by
  obtain ⟨cs, fz, h1, h2, h3, h4⟩ := h
  have hlt := (List.getElem?_eq_some_iff.1 hi).1
  rw [cell_at h1]
  have : (cs.toList.take l.length)[i]? = some (.int .u8 b.toNat) := by rw [h2, bc_get, hi]; rfl
  rw [List.getElem?_take, if_pos hlt] at this
  simpa using this
theorem BX.conv {P : Program} {t e s : TypeId} (B : ByteT P t e s) {w : World} {g : Nat} {e' : TypeId} {l : Bs} (h : BX w g e' l) {o n : Nat} (hn : o + n ≤ l.length) (c : Nat) :
    (convert t s (.slice (some ⟨g, o, none⟩) n c)).run P w = .ok (stv ((l.drop o).take n)) w := by
  have hr := run_convert_bytes_arg (P := P) w t e B.sl B.u8 g o n c (((l.drop o).take n).map fun b => (b.toNat : Int)) (by simp; omega) (fun i hi => by
    have hlt : o + i < l.length := by omega
    rw [h.cell (List.getElem?_eq_getElem hlt)]
    simp [List.getD, List.getElem?_take, hi, List.getElem?_drop, hlt]) s B.st
  rw [hr]
  congr 2
  apply ByteArray.ext
  simp only [strOfNums, str, List.map_map]
  congr 1
  conv => rhs; rw [← List.map_id ((l.drop o).take n)]
  apply List.map_congr_left
  intro x _
  simp
theorem BX.put {w : World} {g : Nat} {e : TypeId} {l : Bs} (h : BX w g e l) {i : Nat} (hi : i < l.length) {b : UInt8} {k : KV}
    (hk : ∀ w', BX w' g e (l.set i b) → w'.heap.size = w.heap.size → Fm (· = g) w w' → k undef w') : St 1 w (.pointer (some ⟨g, i, none⟩)) (.int .u8 b.toNat) k := by
  have hc := h.cell (List.getElem?_eq_getElem hi)
  obtain ⟨cs, fz, h1, h2, h3, h4⟩ := h
  have hfz : w.frozen? ⟨g, i, none⟩ = false := by
    obtain ⟨lo, hi'⟩ := fz
    simp only [World.frozen?, h1]
    rcases h4 with h4 | h4
    · cases h4; simp
    · have h4' : l.length ≤ lo := h4
      have : ¬ lo ≤ i := by omega
      simp [this]
  refine St_one rfl hc hfz (hk _ ⟨_, fz, setCell_at h1 i _, ?_, ?_, ?_⟩ (by simp [World.setCell]) (Fm.setCell w ⟨g, i, none⟩ _ rfl))
  · rw [Array.toList_setIfInBounds, List.length_set, List.take_set, h2]
    simp [bc, List.map_set]
  · rw [List.length_set, Array.size_setIfInBounds]; exact h3
  · rw [List.length_set]; exact h4
/-- '[]byte(s)'. -/
theorem conv_bytes {P : Program} {t e s : TypeId} (B : ByteT P t e s) (w : World) (l : Bs) : ∃ cap w', (convert s t (stv l)).run P w = .ok (.slice (some ⟨w.heap.size, 0, none⟩) l.length cap) w' ∧ BX w' w.heap.size e l ∧ Fm (fun _ => False) w w' ∧ w'.heap.size = w.heap.size + 1 := by
  have hr := run_bytes_of_string (P := P) w s t e (str l) B.st B.sl B.u8
  rw [str_size] at hr
  refine ⟨_, _, hr, ⟨_, _, alloc_new w.drew _, ?_, ?_, ?_⟩, (Fm.drew _ w).trans (Fm.alloc _ w.drew _) (fun _ _ e => e) (fun _ _ e => e), by simp⟩
  · have : (bytesRow (str l) (grownCap w l.length 0 e)).toList = bc l ++ List.replicate (grownCap w l.length 0 e - l.length) (.int .u8 0) := by
      unfold bytesRow
      rw [Array.toList_append, Array.toList_map, Array.toList_replicate, str_size]; rfl
    rw [this, List.take_append_of_le_length (by rw [bc_len]; exact Nat.le_refl _), List.take_of_length_le (by rw [bc_len]; exact Nat.le_refl _)]
  · unfold bytesRow
    rw [Array.size_append, Array.size_map]
    have : (str l).data.size = l.length := by simp [str]
    omega
  · right
    unfold bytesRow
    simp only [Array.size_append, Array.size_map]
    have : (str l).data.size = l.length := by simp [str]
    omega

/-- 'append(b, s...)'. -/
theorem append_text {P : Program} {t e s : TypeId} (B : ByteT P t e s) {w : World} {base : Nat} {v : Value} {n : Nat} {l : Bs} (h : w.ownsRow base e 1 v n (bc l)) (x : Bs) (ty : TypeId)
    (h63 : n + x.length ≤ 140737488355328) (hbase : base ≤ w.heap.size) :
    ∃ v' w', (Builtin.append_ #[t, s] ty #[v, stv x]).run P w = .ok v' w' ∧ w'.ownsRow base e 1 v' (n + x.length) (bc (l ++ x)) ∧ Fm (fun b => v.ownBlock = some b) w w' ∧ (v' = .slice none 0 0 ↔ v = .slice none 0 0 ∧ x.length = 0) := by
  obtain ⟨i, h1, h2, h3, h4⟩ := B.info
  obtain ⟨v', w', hr, ho, hg, hn⟩ := Lib.run_append_own_string (P := P) (w := w) base t s ty e i B.sl B.st h1 h2 h3 h4 v n _ h (str x) (by rw [str_size]; unfold maxLen; omega) (by rw [str_size]; omega) hbase
  rw [str_size] at ho hn
  refine ⟨v', w', hr, ?_, Fm.grown (S := fun b => v.ownBlock = some b) hg (fun k hk _ => hk), hn⟩
  rw [bc_append]; exact ho
/-- 'string(b)' of a row of the call's own. -/
theorem conv_own {P : Program} {t e s : TypeId} (B : ByteT P t e s) {w : World} {base : Nat} {v : Value} {n : Nat} {l : Bs} (h : w.ownsRow base e 1 v n (bc l)) : (convert t s v).run P w = .ok (stv l) w := by
  have hl := h.1
  rw [bc_len, Nat.mul_one] at hl
  rcases (own_cases h).2 with ⟨rfl, h0⟩ | ⟨g, cap, rfl, _, _, hc⟩
  · rw [h0] at hl
    rw [List.eq_nil_of_length_eq_zero hl]
    exact conv_nil B w 0 0
  · have hr := run_convert_bytes_arg (P := P) w t e B.sl B.u8 g 0 n cap (l.map fun b => (b.toNat : Int)) (by simpa using hl) (fun i hi => by
      rw [Nat.zero_add, hc i hi, bc_get]
      have : i < l.length := by omega
      simp [List.getD, this]) s B.st
    rw [hr]
    congr 2
    apply ByteArray.ext
    simp only [strOfNums, str, List.map_map]
    congr 1
    conv => rhs; rw [← List.map_id l]
    apply List.map_congr_left
    intro x _
    simp

/-- 'b[i:j]' of a row of one-cell elements. -/
theorem slV_lh {g o n c i j : Nat} (hij : i ≤ j) (hj : j ≤ c) (k k' : IntKind) : ∃ o', slV 1 (.slice (some ⟨g, o, none⟩) n c) (some (.int k i)) (some (.int k' j)) none = some (.slice (some ⟨g, o', none⟩) (j - i) (c - i)) ∧ (i < c → o' = o + i) ∧ o' ≤ o + i ∧ (j = i → True) := by
  have e1 : bnd c c none = some c := rfl
  have e2 : bnd c n (some (.int k' j)) = some j := bnd_at hj k'
  have e3 : bnd j 0 (some (.int k i)) = some i := bnd_at hij k
  refine ⟨if c = i then o else o + i, ?_, fun h => by rw [if_neg (by omega)], by split <;> omega, fun _ => trivial⟩
  simp only [slV, bndH, e1, e2, e3, Option.bind_some, Option.map_some]
  congr 2
  split
  · rfl
  · rw [add_none, Nat.mul_one]
theorem slV_hi1 {g o n c j : Nat} (hj : j ≤ c) (k : IntKind) : slV 1 (.slice (some ⟨g, o, none⟩) n c) none (some (.int k j)) none = some (.slice (some ⟨g, o, none⟩) j c) := by
  have e1 : bnd c n (some (.int k j)) = some j := bnd_at hj k
  have e2 : bnd c c none = some c := rfl
  have e3 : bnd j 0 none = some 0 := rfl
  simp only [slV, bndH, e1, e2, e3, Option.bind_some, Option.map_some, Nat.zero_mul, Nat.sub_zero]
  have : (⟨g, o, none⟩ : Addr).add 0 = ⟨g, o, none⟩ := rfl
  rw [this, ite_self]
theorem slV_lo1 {g o n c i : Nat} (hi : i ≤ n) (hn : n ≤ c) (k : IntKind) : ∃ o', slV 1 (.slice (some ⟨g, o, none⟩) n c) (some (.int k i)) none none = some (.slice (some ⟨g, o', none⟩) (n - i) (c - i)) ∧ (i < c → o' = o + i) ∧ o' ≤ o + i := by
  have e1 : bnd c c none = some c := rfl
  have e3 : bnd n 0 (some (.int k i)) = some i := bnd_at hi k
  refine ⟨if c = i then o else o + i, ?_, fun h => by rw [if_neg (by omega)], by split <;> omega⟩
  simp only [slV, bndH, e1, e3, Option.bind_some, Option.map_some]
  congr 2
  split
  · rfl
  · rw [add_none, Nat.mul_one]

/-- How long the text is that stands second. -/
def sz1 (vs : List Value) : Nat := match (vs[1]? : Option Value) with
  | some (.string s) => s.size
  | _ => 0
theorem sz1_eq (a : Value) (s : Bs) (l : List Value) : sz1 (a :: stv s :: l) = s.length := by simp [sz1, str_size]


end Go.Al
