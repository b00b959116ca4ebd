/- Laid for one claim by slim.py out of: AlRules AlHeap AlRow AlSl AlBytes AlNum DiskPure CpsPR PgPure AlNum2 BitsPure AlLaw AlView AlStru AlView2 PgBits Disk Disk2. -/
import Derived.Test.YthbngnlmgplijaaGreatDoorPlyA
namespace Go.Al
set_option linter.unusedVariables false
set_option linter.unusedSimpArgs false
set_option linter.unusedSectionVars false

theorem iff_eq {a b : Prop} (h1 : a → b) (h2 : b → a) : a = b := propext ⟨h1, h2⟩

/-! ### No simplification behind what comes next -/
@[congr] theorem Pu_congr {r r' : Option Value} {k : Value → Prop} (h : r = r') : Pu r k = Pu r' k := by rw [h]
@[congr] theorem Ld_congr {w : World} {x x' : Value} {k : KV} (h : x = x') : Ld w x k = Ld w x' k := by rw [h]
@[congr] theorem LdN_congr {n : Nat} {w : World} {x x' : Value} {k : KV} (h : x = x') : LdN n w x k = LdN n w x' k := by rw [h]
@[congr] theorem St_congr {n : Nat} {w : World} {x x' u : Value} {k : KV} (h : x = x') : St n w x u k = St n w x' u k := by rw [h]
@[congr] theorem New_congr {cs cs' : Array Value} {t : TypeId} {w : World} {k : KV} (h : cs = cs') : New cs t w k = New cs' t w k := by rw [h]
@[congr] theorem IfB_congr {v v' : Value} {a b : Prop} (h : v = v') : IfB v a b = IfB v' a b := by rw [h]
@[congr] theorem Gd_congr {c c' : Bool} {X : KV → Prop} {w : World} {k : KV} (h : c = c') : Gd c X w k = Gd c' X w k := by rw [h]
@[congr] theorem RunS_congr {P : Program} {s : Sem Value} {w : World} {k : KV} : RunS P s w k = RunS P s w k := rfl
@[congr] theorem RunU_congr {P : Program} {s : Sem Unit} {w : World} {k : KV} : RunU P s w k = RunU P s w k := rfl
@[congr] theorem Cl_congr {P : Program} {g : FuncId} {l : List Value} {w : World} {k : KV} : Cl P g l w k = Cl P g l w k := rfl
@[congr] theorem ClV_congr {P : Program} {v : Value} {l : List Value} {w : World} {k : KV} : ClV P v l w k = ClV P v l w k := rfl
@[congr] theorem Jn_congr {B : List Value → World → Prop} {A : (List Value → World → Prop) → Prop} : Jn B A = Jn B A := rfl

/-! ### Pure operations at known shapes -/
theorem extV_0 (a : Value) (l : List Value) : extV (.tuple (List.toArray (a :: l))) 0 = some a := rfl
theorem extV_1 (a b : Value) (l : List Value) : extV (.tuple (List.toArray (a :: b :: l))) 1 = some b := rfl
theorem extV_2 (a b c : Value) (l : List Value) : extV (.tuple (List.toArray (a :: b :: c :: l))) 2 = some c := rfl
theorem extV_3 (a b c d : Value) (l : List Value) : extV (.tuple (List.toArray (a :: b :: c :: d :: l))) 3 = some d := rfl
theorem nilV_ptr (a : Addr) : nilV (.pointer (some a)) = some (.pointer (some a)) := rfl
theorem nilV_fn (g : FuncId) (x y : Array Value) : nilV (.func (.func g) x y) = some (.func (.func g) x y) := rfl
theorem faV_ptr (n : Nat) (a : Addr) : faV n (.pointer (some a)) = some (.pointer (some (a.add n))) := rfl
theorem lenV_sl (a : Option Addr) (n c : Nat) : lenV (.slice a n c) = some (.int .i64 n) := rfl
theorem lenS_s (s : ByteArray) : lenS (.string s) = some (.int .i64 s.size) := rfl
theorem capV_sl (a : Option Addr) (n c : Nat) : capV (.slice a n c) = some (.int .i64 c) := rfl
theorem pickV_t (a b : Value) : pickV (.bool true) a b = some a := rfl
theorem pickV_f (a b : Value) : pickV (.bool false) a b = some b := rfl
theorem pickV_or (c x : Bool) : pickV (.bool c) (.bool true) (.bool x) = some (.bool (c || x)) := by cases c <;> rfl
theorem pickV_and (c x : Bool) : pickV (.bool c) (.bool x) (.bool false) = some (.bool (c && x)) := by cases c <;> simp [pickV]
theorem unV_not (b : Bool) : unV .not (.bool b) = some (.bool !b) := rfl
theorem unV_neg (k : IntKind) (n : Int) : unV .neg (.int k n) = some (.int k (k.wrap (0 - n))) := rfl
theorem isB_t (b : Bool) : isB true (.bool b) = b := rfl
theorem isB_f (b : Bool) : isB false (.bool b) = !b := rfl
theorem isB_u (b : Bool) : isB b undef = false := rfl
theorem binV_add (d : TypeDesc) (k : IntKind) (a b : Int) : binV d .add (.int k a) (.int k b) = some (.int k (k.wrap (a + b))) := by simp [binV, isSh, binI]
theorem binV_sub (d : TypeDesc) (k : IntKind) (a b : Int) : binV d .sub (.int k a) (.int k b) = some (.int k (k.wrap (a - b))) := by simp [binV, isSh, binI]
theorem binV_mul (d : TypeDesc) (k : IntKind) (a b : Int) : binV d .mul (.int k a) (.int k b) = some (.int k (k.wrap (a * b))) := by simp [binV, isSh, binI]
theorem binV_quo (d : TypeDesc) (k : IntKind) (a b : Int) : binV d .quo (.int k a) (.int k b) = if b = 0 then none else some (.int k (k.wrap (a.tdiv b))) := by simp [binV, isSh, binI]
theorem binV_rem (d : TypeDesc) (k : IntKind) (a b : Int) : binV d .rem (.int k a) (.int k b) = if b = 0 then none else some (.int k (a.tmod b)) := by simp [binV, isSh, binI]
theorem binV_eql (d : TypeDesc) (k : IntKind) (a b : Int) : binV d .eql (.int k a) (.int k b) = some (.bool (a == b)) := by simp [binV, isSh, binI]
theorem binV_neq (d : TypeDesc) (k : IntKind) (a b : Int) : binV d .neq (.int k a) (.int k b) = some (.bool (a != b)) := by simp [binV, isSh, binI]
theorem binV_lss (d : TypeDesc) (k : IntKind) (a b : Int) : binV d .lss (.int k a) (.int k b) = some (.bool (decide (a < b))) := by simp [binV, isSh, binI]
theorem binV_leq (d : TypeDesc) (k : IntKind) (a b : Int) : binV d .leq (.int k a) (.int k b) = some (.bool (decide (a ≤ b))) := by simp [binV, isSh, binI]
theorem binV_gtr (d : TypeDesc) (k : IntKind) (a b : Int) : binV d .gtr (.int k a) (.int k b) = some (.bool (decide (b < a))) := by simp [binV, isSh, binI]
theorem binV_geq (d : TypeDesc) (k : IntKind) (a b : Int) : binV d .geq (.int k a) (.int k b) = some (.bool (decide (b ≤ a))) := by simp [binV, isSh, binI]
theorem binV_shl (d : TypeDesc) (k j : IntKind) (a b : Int) : binV d .shl (.int k a) (.int j b) = shV .shl k a b := rfl
theorem binV_shr (d : TypeDesc) (k j : IntKind) (a b : Int) : binV d .shr (.int k a) (.int j b) = shV .shr k a b := rfl
theorem bytes_beq (s t : ByteArray) : (s.toList == t.toList) = decide (s = t) := by
  by_cases h : s = t
  · subst h; simp
  · have : s.toList ≠ t.toList := fun e => h (by
      have e' : s.data.toList = t.data.toList := by rw [← Go.ByteArray.toList_eq, ← Go.ByteArray.toList_eq]; exact e
      exact ByteArray.ext (Array.ext' e'))
    simp [h, this]
theorem binV_seql (d : TypeDesc) (s t : ByteArray) : binV d .eql (.string s) (.string t) = some (.bool (decide (s = t))) := by simp only [binV, binS, bytes_beq]
theorem binV_sneq (d : TypeDesc) (s t : ByteArray) : binV d .neq (.string s) (.string t) = some (.bool (!decide (s = t))) := by simp only [binV, binS, bytes_beq]
theorem binV_slss (d : TypeDesc) (s t : ByteArray) : binV d .lss (.string s) (.string t) = some (.bool (Op.bytesLess s.toList t.toList)) := rfl
theorem binV_beql (x y : Bool) : binV .bool .eql (.bool x) (.bool y) = some (.bool (x == y)) := rfl
theorem binV_bneq (x y : Bool) : binV .bool .neq (.bool x) (.bool y) = some (.bool (x != y)) := by cases x <;> cases y <;> rfl
theorem binV_peql (e : TypeId) (a : Option Addr) : binV (.pointer e) .eql (.pointer a) (.pointer none) = some (.bool a.isNone) := by cases a <;> rfl
theorem binV_pneq (e : TypeId) (a : Option Addr) : binV (.pointer e) .neq (.pointer a) (.pointer none) = some (.bool a.isSome) := by cases a <;> rfl
theorem ixV_at {sz : Nat} {a : Addr} {len cap : Nat} {k : IntKind} {i : Nat} (h : i < len) : ixV sz (.slice (some a) len cap) (.int k i) = some (.pointer (some (a.add (i * sz)))) := by
  simp [ixV, h]
theorem add_add (a : Addr) (m n : Nat) : (a.add m).add n = a.add (m + n) := by
  obtain ⟨b, o, s⟩ := a
  unfold Addr.add
  by_cases hm : m = 0 <;> by_cases hn : n = 0 <;> simp [hm, hn]
  omega
theorem add_none (b o n : Nat) : Addr.add ⟨b, o, none⟩ n = ⟨b, o + n, none⟩ := by
  unfold Addr.add; split <;> simp_all
theorem add_zero (a : Addr) : a.add 0 = a := rfl

/-! ### Control -/
theorem IfB_t (a b : Prop) : IfB (.bool true) a b = a := iff_eq (fun h => h.out) (fun h => ⟨h⟩)
theorem IfB_f (a b : Prop) : IfB (.bool false) a b = b := iff_eq (fun h => h.out) (fun h => ⟨h⟩)
theorem IfB_split {c : Bool} {a b : Prop} (h1 : c = true → a) (h2 : c = false → b) : IfB (.bool c) a b := by
  cases c
  · exact ⟨h2 rfl⟩
  · exact ⟨h1 rfl⟩
theorem Gd_t (X : KV → Prop) (w : World) (k : KV) : Gd true X w k = X k := iff_eq (fun h => h.out) (fun h => ⟨h⟩)
theorem Gd_f (X : KV → Prop) (w : World) (k : KV) : Gd false X w k = k undef w := iff_eq (fun h => h.out) (fun h => ⟨h⟩)
theorem Ld_ptr (w : World) (a : Addr) (k : KV) : Ld w (.pointer (some a)) k = Pu (w.cell? a) (fun u => k u w) := by
  refine iff_eq (fun h => ⟨?_⟩) (fun h => ⟨?_⟩)
  · have := h.out; unfold Ld0 at this; unfold Pu0; cases hc : w.cell? a <;> simp_all
  · have := h.out; unfold Pu0 at this; unfold Ld0; cases hc : w.cell? a <;> simp_all
def cellsV (w : World) (a : Addr) (n : Nat) : Option Value := (cellsAt w a 0 n).map fun l => .agg l.toArray
theorem LdN_ptr (n : Nat) (w : World) (a : Addr) (k : KV) : LdN n w (.pointer (some a)) k = Pu (cellsV w a n) (fun u => k u w) := by
  refine iff_eq (fun h => ⟨?_⟩) (fun h => ⟨?_⟩)
  · have := h.out; unfold LdN0 at this; unfold Pu0 cellsV; cases hc : cellsAt w a 0 n <;> simp_all
  · have := h.out; unfold Pu0 cellsV at this; unfold LdN0; cases hc : cellsAt w a 0 n <;> simp_all
theorem New_eq (cs : Array Value) (t : TypeId) (w : World) (k : KV) : New cs t w k = k (.pointer (some ⟨w.heap.size, 0, none⟩)) (w.alloc (.cells cs t)) := iff_eq (fun h => h.out) (fun h => ⟨h⟩)
theorem St_one {w : World} {a : Addr} {u x : Value} {k : KV} (hu : u.oneCell' = true) (hc : w.cell? a = some x) (hf : w.frozen? a = false) (h : k undef (w.setCell a u)) : St 1 w (.pointer (some a)) u k := by
  refine ⟨?_⟩
  have hcs : u.cells = #[u] := by cases u <;> first | rfl | simp [Value.oneCell'] at hu
  simp only [St0, hcs, List.size_toArray, List.length_cons, List.length_nil, Nat.reduceAdd, Nat.beq_refl, cond_true, stC, hu, add_zero, hc, hf, cond_false]
  exact h
theorem RunS_ok {P : Program} {s : Sem Value} {w w' : World} {v : Value} {k : KV} (h : s.run P w = .ok v w') (hk : k v w') : RunS P s w k := ⟨by unfold RunS0; rw [h]; exact hk⟩
theorem RunU_ok {P : Program} {s : Sem Unit} {w w' : World} {k : KV} (h : s.run P w = .ok () w') (hk : k undef w') : RunU P s w k := ⟨by unfold RunU0; rw [h]; exact hk⟩
theorem ClV_func {P : Program} {g : FuncId} {x y : Array Value} {l : List Value} {w : World} {k : KV} (hb : callB P g = true) (h : Cl P g (x.toList ++ l ++ y.toList) w k) : ClV P (.func (.func g) x y) l w k := ⟨by simp only [ClV0, hb, cond_true]; exact h⟩
theorem Jn_at {B : List Value → World → Prop} {A : (List Value → World → Prop) → Prop} (J : List Value → World → Prop) (hB : ∀ vs w, J vs w → B vs w) (hA : ∀ kk : List Value → World → Prop, (∀ vs w, J vs w → kk vs w) → A kk) : Jn B A := ⟨hA B hB⟩
theorem drew_heap (w : World) : w.drew.heap = w.heap := rfl
theorem drew_cell (w : World) (a : Addr) : w.drew.cell? a = w.cell? a := rfl

/-! ### Numbers -/
theorem wrap_id {n : Int} (h : -9223372036854775808 ≤ n ∧ n ≤ 9223372036854775807) : IntKind.i64.wrap n = n := by
  unfold IntKind.wrap; simp [IntKind.bits, IntKind.signed]; omega
theorem wrap_succ {i : Nat} (h : (i : Int) < 9223372036854775807) : IntKind.i64.wrap ((i : Int) + 1) = ((i + 1 : Nat) : Int) := by
  rw [wrap_id (by omega)]; rfl
def nth (l : List Value) (j : Nat) : Int := match l[j]? with
  | some (.int _ n) => n
  | _ => 0
theorem nth_0 (k : IntKind) (n : Int) (l : List Value) : nth (.int k n :: l) 0 = n := rfl
theorem nth_1 (a : Value) (k : IntKind) (n : Int) (l : List Value) : nth (a :: .int k n :: l) 1 = n := rfl
theorem nth_2 (a b : Value) (k : IntKind) (n : Int) (l : List Value) : nth (a :: b :: .int k n :: l) 2 = n := rfl
theorem nth_3 (a b c : Value) (k : IntKind) (n : Int) (l : List Value) : nth (a :: b :: c :: .int k n :: l) 3 = n := rfl

/-! ### The rules of a step, as one -/
theorem RS0 : (∀ (v : Value) (k : Value → Prop), Pu (some v) k = k v) ∧
  (∀ (a : Value) (l : List Value), extV (.tuple (List.toArray (a :: l))) 0 = some a) ∧
  (∀ (a b : Value) (l : List Value), extV (.tuple (List.toArray (a :: b :: l))) 1 = some b) ∧
  (∀ (a b c : Value) (l : List Value), extV (.tuple (List.toArray (a :: b :: c :: l))) 2 = some c) ∧
  (∀ (a b c d : Value) (l : List Value), extV (.tuple (List.toArray (a :: b :: c :: d :: l))) 3 = some d) ∧
  (∀ (a : Addr), nilV (.pointer (some a)) = some (.pointer (some a))) ∧
  (∀ (g : FuncId) (x y : Array Value), nilV (.func (.func g) x y) = some (.func (.func g) x y)) ∧
  (∀ (n : Nat) (a : Addr), faV n (.pointer (some a)) = some (.pointer (some (a.add n)))) ∧
  (∀ (a : Option Addr) (n c : Nat), lenV (.slice a n c) = some (.int .i64 n)) :=
  ⟨@Pu_some, @extV_0, @extV_1, @extV_2, @extV_3, @nilV_ptr, @nilV_fn, @faV_ptr, @lenV_sl⟩
theorem RS1 : (∀ (s : ByteArray), lenS (.string s) = some (.int .i64 s.size)) ∧
  (∀ (a : Option Addr) (n c : Nat), capV (.slice a n c) = some (.int .i64 c)) ∧
  (∀ (a b : Value), pickV (.bool true) a b = some a) ∧
  (∀ (a b : Value), pickV (.bool false) a b = some b) ∧
  (∀ (b : Bool), unV .not (.bool b) = some (.bool !b)) ∧
  (∀ (k : IntKind) (n : Int), unV .neg (.int k n) = some (.int k (k.wrap (0 - n)))) ∧
  (∀ (b : Bool), isB true (.bool b) = b) ∧
  (∀ (b : Bool), isB false (.bool b) = !b) ∧
  (∀ (b : Bool), isB b undef = false) :=
  ⟨@lenS_s, @capV_sl, @pickV_t, @pickV_f, @unV_not, @unV_neg, @isB_t, @isB_f, @isB_u⟩
theorem RS2 : (∀ (d : TypeDesc) (k : IntKind) (a b : Int), binV d .add (.int k a) (.int k b) = some (.int k (k.wrap (a + b)))) ∧
  (∀ (d : TypeDesc) (k : IntKind) (a b : Int), binV d .sub (.int k a) (.int k b) = some (.int k (k.wrap (a - b)))) ∧
  (∀ (d : TypeDesc) (k : IntKind) (a b : Int), binV d .mul (.int k a) (.int k b) = some (.int k (k.wrap (a * b)))) ∧
  (∀ (d : TypeDesc) (k : IntKind) (a b : Int), binV d .eql (.int k a) (.int k b) = some (.bool (a == b))) ∧
  (∀ (d : TypeDesc) (k : IntKind) (a b : Int), binV d .neq (.int k a) (.int k b) = some (.bool (a != b))) ∧
  (∀ (d : TypeDesc) (k : IntKind) (a b : Int), binV d .lss (.int k a) (.int k b) = some (.bool (decide (a < b)))) ∧
  (∀ (d : TypeDesc) (k : IntKind) (a b : Int), binV d .leq (.int k a) (.int k b) = some (.bool (decide (a ≤ b)))) ∧
  (∀ (d : TypeDesc) (k : IntKind) (a b : Int), binV d .gtr (.int k a) (.int k b) = some (.bool (decide (b < a)))) ∧
  (∀ (d : TypeDesc) (k : IntKind) (a b : Int), binV d .geq (.int k a) (.int k b) = some (.bool (decide (b ≤ a)))) :=
  ⟨@binV_add, @binV_sub, @binV_mul, @binV_eql, @binV_neq, @binV_lss, @binV_leq, @binV_gtr, @binV_geq⟩
theorem RS3 : (∀ (d : TypeDesc) (s t : ByteArray), binV d .eql (.string s) (.string t) = some (.bool (decide (s = t)))) ∧
  (∀ (d : TypeDesc) (s t : ByteArray), binV d .neq (.string s) (.string t) = some (.bool (!decide (s = t)))) ∧
  (∀ (d : TypeDesc) (s t : ByteArray), binV d .lss (.string s) (.string t) = some (.bool (Op.bytesLess s.toList t.toList))) ∧
  (∀ (x y : Bool), binV .bool .eql (.bool x) (.bool y) = some (.bool (x == y))) ∧
  (∀ (x y : Bool), binV .bool .neq (.bool x) (.bool y) = some (.bool (x != y))) ∧
  (∀ (e : TypeId) (a : Option Addr), binV (.pointer e) .eql (.pointer a) (.pointer none) = some (.bool a.isNone)) ∧
  (∀ (e : TypeId) (a : Option Addr), binV (.pointer e) .neq (.pointer a) (.pointer none) = some (.bool a.isSome)) ∧
  (∀ (a : Addr) (m n : Nat), (a.add m).add n = a.add (m + n)) ∧
  (∀ (b o n : Nat), Addr.add ⟨b, o, none⟩ n = ⟨b, o + n, none⟩) :=
  ⟨@binV_seql, @binV_sneq, @binV_slss, @binV_beql, @binV_bneq, @binV_peql, @binV_pneq, @add_add, @add_none⟩
theorem RS4 : (∀ (a : Addr), a.add 0 = a) ∧
  (∀ n : Nat, 0 + n = n) ∧
  (∀ n : Nat, n + 0 = n) ∧
  (∀ (a b : Prop), IfB (.bool true) a b = a) ∧
  (∀ (a b : Prop), IfB (.bool false) a b = b) ∧
  (∀ (X : KV → Prop) (w : World) (k : KV), Gd true X w k = X k) ∧
  (∀ (X : KV → Prop) (w : World) (k : KV), Gd false X w k = k undef w) ∧
  (∀ (w : World) (a : Addr) (k : KV), Ld w (.pointer (some a)) k = Pu (w.cell? a) (fun u => k u w)) ∧
  (∀ (n : Nat) (w : World) (a : Addr) (k : KV), LdN n w (.pointer (some a)) k = Pu (cellsV w a n) (fun u => k u w)) :=
  ⟨@Go.Al.add_zero, @Nat.zero_add, @Nat.add_zero, @IfB_t, @IfB_f, @Gd_t, @Gd_f, @Ld_ptr, @LdN_ptr⟩
theorem RS5 : (∀ {α : Type} {a : α}, (some a).isNone = false) ∧
  (∀ {α : Type}, (none : Option α).isNone = true) ∧
  (∀ {α : Type} {a : α}, (some a).isSome = true) ∧
  (∀ {α : Type}, (none : Option α).isSome = false) ∧
  ((!true) = false) ∧
  ((!false) = true) ∧
  (∀ (w : World) (a : Addr), w.drew.cell? a = w.cell? a) ∧
  (∀ (w : World), w.drew.heap = w.heap) :=
  ⟨@Option.isNone_some, @Option.isNone_none, @Option.isSome_some, @Option.isSome_none, @Bool.not_true, @Bool.not_false, @drew_cell, @drew_heap⟩

end Go.Al

namespace Go.Al
set_option linter.unusedVariables false
set_option linter.unusedSimpArgs false
set_option linter.unusedSectionVars false
open Go.RowKit (Below)
open Go.ChangeMaps (setBlock)

structure Fm (S : Nat → Prop) (w w' : World) : Prop where
  os : w'.os = w.os
  tape : w'.tape = w.tape
  output : w'.output = w.output
  size : w.heap.size ≤ w'.heap.size
  block : ∀ b, b < w.heap.size → ¬ S b → w'.heap[b]? = w.heap[b]?

theorem Fm.refl (S : Nat → Prop) (w : World) : Fm S w w := ⟨rfl, rfl, rfl, Nat.le_refl _, fun _ _ _ => rfl⟩
theorem Fm.trans {S T U : Nat → Prop} {a b c : World} (h : Fm S a b) (k : Fm T b c) (hS : ∀ x, x < a.heap.size → S x → U x) (hT : ∀ x, x < a.heap.size → T x → U x) : Fm U a c :=
  ⟨k.os.trans h.os, k.tape.trans h.tape, k.output.trans h.output, Nat.le_trans h.size k.size, fun x hx hu => (k.block x (Nat.lt_of_lt_of_le hx h.size) (fun t => hu (hT x hx t))).trans (h.block x hx (fun s => hu (hS x hx s)))⟩
theorem Fm.mono {S T : Nat → Prop} {a b : World} (h : Fm S a b) (hS : ∀ x, x < a.heap.size → S x → T x) : Fm T a b := ⟨h.os, h.tape, h.output, h.size, fun x hx ht => h.block x hx fun s => ht (hS x hx s)⟩
theorem Fm.alloc (S : Nat → Prop) (w : World) (o : Obj) : Fm S w (w.alloc o) := ⟨rfl, rfl, rfl, by simp, fun b hb _ => by
  show (w.heap.push o)[b]? = _
  rw [Array.getElem?_push, if_neg (by omega)]⟩
theorem Fm.drew (S : Nat → Prop) (w : World) : Fm S w w.drew := ⟨rfl, rfl, rfl, Nat.le_refl _, fun _ _ _ => rfl⟩
theorem Fm.setBlock {S : Nat → Prop} (w : World) (r : Nat) (o : Obj) (hr : S r) : Fm S w (setBlock w r o) := ⟨rfl, rfl, rfl, by simp [ChangeMaps.setBlock], fun b hb hs => by
  simp only [ChangeMaps.setBlock]
  rw [Array.getElem?_setIfInBounds_ne (by rintro rfl; exact hs hr)]⟩
theorem Fm.setCell {S : Nat → Prop} (w : World) (a : Addr) (v : Value) (hr : S a.block) : Fm S w (w.setCell a v) := ⟨rfl, rfl, rfl, by simp [World.setCell], fun b hb hs => by
  simp only [World.setCell, Array.getElem?_modify]
  rw [if_neg (by rintro rfl; exact hs hr)]⟩
theorem Fm.grown {S : Nat → Prop} {w w' : World} {row : Option Nat} (h : w.grownBy w' row) (hr : ∀ k, row = some k → k < w.heap.size → S k) : Fm S w w' :=
  ⟨h.os, h.tape, h.output, h.size, fun b hb hs => h.block b hb fun e => hs (hr b e.symm hb)⟩
theorem Fm.below {w w' : World} (h : Fm (fun _ => False) w w') : Below w.heap.size w w' := ⟨h.os, h.tape, h.output, h.size, fun b hb => h.block b hb (fun e => e)⟩
theorem Fm.of_below {w w' : World} (h : Below w.heap.size w w') (S : Nat → Prop) : Fm S w w' := ⟨h.os, h.tape, h.output, h.size, fun b hb _ => h.block b hb⟩
theorem Fm.cell {S : Nat → Prop} {w w' : World} (h : Fm S w w') {a : Addr} (ha : a.block < w.heap.size) (hs : ¬ S a.block) : w'.cell? a = w.cell? a := World.cell?_of_block (w := w) (h.block a.block ha hs)
theorem Fm.cell' {S : Nat → Prop} {w w' : World} (h : Fm S w w') {a : Addr} {v : Value} (hv : w.cell? a = some v) (hs : ¬ S a.block) : w'.cell? a = some v := by
  have : a.block < w.heap.size := by
    unfold World.cell? at hv
    cases hb : w.heap[a.block]? with
    | none => simp [hb] at hv
    | some o => exact (Array.getElem?_eq_some_iff.1 hb).1
  rw [h.cell this hs]; exact hv
theorem lt_of_heap {w : World} {b : Nat} {o : Obj} (h : w.heap[b]? = some o) : b < w.heap.size := (Array.getElem?_eq_some_iff.1 h).1
theorem Fm.heap {S : Nat → Prop} {w w' : World} (h : Fm S w w') {b : Nat} {o : Obj} (hb : w.heap[b]? = some o) (hs : ¬ S b) : w'.heap[b]? = some o := by rw [h.block b (lt_of_heap hb) hs]; exact hb
theorem alloc_new (w : World) (o : Obj) : (w.alloc o).heap[w.heap.size]? = some o := (MapKept.heap_alloc w o).1
theorem alloc_size (w : World) (o : Obj) : (w.alloc o).heap.size = w.heap.size + 1 := by simp
theorem cell_at {w : World} {b off : Nat} {cs : Array Value} {t : TypeId} {fz : Nat × Nat} (h : w.heap[b]? = some (.cells cs t fz)) : w.cell? ⟨b, off, none⟩ = cs[off]? := by
  unfold World.cell?; simp [h]
theorem setBlock_at {w : World} {b : Nat} {o o' : Obj} (h : w.heap[b]? = some o') : (setBlock w b o).heap[b]? = some o := by
  simp [ChangeMaps.setBlock, lt_of_heap h]
theorem setBlock_size (w : World) (b : Nat) (o : Obj) : (setBlock w b o).heap.size = w.heap.size := by simp [ChangeMaps.setBlock]

theorem New_any {cs : Array Value} {t : TypeId} {w : World} {k : KV} (h : ∀ b w', b = w.heap.size → w'.heap.size = w.heap.size + 1 → w'.heap[b]? = some (.cells cs t) → Fm (fun _ => False) w w' → k (.pointer (some ⟨b, 0, none⟩)) w') : New cs t w k := by
  rw [New_eq]
  exact h _ _ rfl (alloc_size _ _) (alloc_new _ _) (Fm.alloc _ _ _)

/-! ### Maps -/

theorem eraseIdx_mp {α β : Type} (f : α → β) : ∀ (l : List α) (i : Nat), (l.map f).eraseIdx i = (l.eraseIdx i).map f
  | [], i => by simp
  | x :: l, 0 => by simp
  | x :: l, i + 1 => by simp [eraseIdx_mp f l i]

structure KeyT (P : Program) (t : TypeId) (kt et : TypeId) {α : Type} (kv : α → Value) : Prop where
  map : P.underlying t = some (.map kt et)
  now : ∃ d, P.underlying kt = some d ∧ (∀ a b, ∃ r, Instr.sameNow d (kv a) (kv b) = some r ∧ (r = true ↔ a = b)) ∧ ∀ w a e, (Instr.checkKey e 10000 kt (kv a)).run P w = .ok () w
  bits : ∀ a n, Instr.sameBits n (kv a) (kv a) = true
  inj : ∀ a b, kv a = kv b → a = b

theorem keyT_int {P : Program} {t kt et : TypeId} {q : IntKind} (h : P.underlying t = some (.map kt et)) (hk : P.underlying kt = some (.int q)) : KeyT P t kt et (Value.int q) where
  map := h
  now := ⟨_, hk, fun a b => ⟨a == b, by simp [Instr.sameNow], by simp⟩, fun w a e => by
    rw [Instr.checkKey]
    simp only [Sem.run_bind, run_underlying hk, Result.andThen_ok, Sem.run_pure]⟩
  bits := fun a n => by cases n <;> simp [Instr.sameBits]
  inj := fun a b h => by cases h; rfl
variable {α β : Type} [DecidableEq α]

structure MapAt (w : World) (b : Nat) (kv : α → Value) (vv : β → Value) (D : List (α × β)) : Prop where
  ex : ∃ es clock, w.heap[b]? = some (.map es clock) ∧ es.toList.map (fun e => (e.key, e.val)) = D.map (fun p => (kv p.1, vv p.2)) ∧ (es.toList.map (·.born)).Nodup ∧ ∀ e ∈ es.toList, e.born < clock
  keys : (D.map (·.1)).Nodup

def getD (D : List (α × β)) (a : α) : Option β := (D.find? (fun p => decide (p.1 = a))).map (·.2)
def setD : List (α × β) → α → β → List (α × β)
  | [], a, b => [(a, b)]
  | p :: l, a, b => if p.1 = a then (a, b) :: l else p :: setD l a b
def delD : List (α × β) → α → List (α × β)
  | [], _ => []
  | p :: l, a => if p.1 = a then l else p :: delD l a

theorem getD_cons (p : α × β) (D : List (α × β)) (x : α) : getD (p :: D) x = if p.1 = x then some p.2 else getD D x := by
  unfold getD
  rw [List.find?_cons]
  by_cases h : p.1 = x <;> simp [h]
theorem getD_nil (x : α) : getD ([] : List (α × β)) x = none := rfl
theorem getD_setD (D : List (α × β)) (a : α) (b : β) (x : α) : getD (setD D a b) x = if x = a then some b else getD D x := by
  induction D with
  | nil => rw [setD, getD_cons, getD_nil]; by_cases h : a = x <;> simp [h, eq_comm]
  | cons p l ih =>
    rw [setD]
    by_cases hp : p.1 = a
    · rw [if_pos hp, getD_cons, getD_cons]; subst hp; by_cases h : p.1 = x
      · simp [h]
      · have h' : ¬ x = p.1 := fun e => h e.symm
        simp [h, h']
    · rw [if_neg hp, getD_cons, getD_cons, ih]
      by_cases h : p.1 = x
      · have : x ≠ a := fun e => hp (h.trans e); simp [h, this]
      · simp [h]
theorem keys_setD (D : List (α × β)) (a : α) (b : β) : (setD D a b).map (·.1) = if a ∈ D.map (·.1) then D.map (·.1) else D.map (·.1) ++ [a] := by
  induction D with
  | nil => simp [setD]
  | cons p l ih =>
    rw [setD]
    by_cases hp : p.1 = a
    · subst hp; simp
    · have hp' : ¬ a = p.1 := fun e => hp e.symm
      simp only [if_neg hp, List.map_cons, ih, List.mem_cons, hp', false_or]
      split <;> simp
theorem nodup_setD {D : List (α × β)} (h : (D.map (·.1)).Nodup) (a : α) (b : β) : ((setD D a b).map (·.1)).Nodup := by
  rw [keys_setD]
  split
  · exact h
  · rename_i hn; rw [List.nodup_append]; exact ⟨h, by simp, fun x hx y hy => by simp at hy; subst hy; rintro rfl; exact hn hx⟩
theorem getD_none {D : List (α × β)} {a : α} : getD D a = none ↔ a ∉ D.map (·.1) := by
  unfold getD
  rw [Option.map_eq_none_iff, List.find?_eq_none]
  simp only [decide_eq_true_eq, List.mem_map, not_exists, not_and]
theorem getD_some {D : List (α × β)} (h : (D.map (·.1)).Nodup) {a : α} {b : β} : getD D a = some b ↔ (a, b) ∈ D := by
  induction D with
  | nil => simp [getD_nil]
  | cons p l ih =>
    rw [List.map_cons, List.nodup_cons] at h
    rw [getD_cons, List.mem_cons]
    by_cases hp : p.1 = a
    · rw [if_pos hp]
      constructor
      · intro e; cases e; exact .inl (by rw [← hp])
      · rintro (e | e)
        · cases e; rfl
        · exact absurd (List.mem_map.2 ⟨(a, b), e, rfl⟩) (by rw [← hp]; exact h.1)
    · rw [if_neg hp, ih h.2]
      constructor
      · exact .inr
      · rintro (e | e)
        · cases e; exact absurd rfl hp
        · exact e

theorem MapAt.lt {w : World} {b : Nat} {kv : α → Value} {vv : β → Value} {D : List (α × β)} (h : MapAt w b kv vv D) : b < w.heap.size := by
  obtain ⟨es, c, hb, _⟩ := h.ex; exact lt_of_heap hb
theorem MapAt.keep {S : Nat → Prop} {w w' : World} {b : Nat} {kv : α → Value} {vv : β → Value} {D : List (α × β)} (h : MapAt w b kv vv D) (hf : Fm S w w') (hs : ¬ S b) : MapAt w' b kv vv D := by
  obtain ⟨es, c, hb, r⟩ := h.ex
  exact ⟨⟨es, c, hf.heap hb hs, r⟩, h.keys⟩
theorem MapAt.empty (w : World) (kv : α → Value) (vv : β → Value) : MapAt (w.alloc (.map #[] 0)) w.heap.size kv vv [] := ⟨⟨#[], 0, alloc_new _ _, rfl, by simp, by simp⟩, by simp⟩

theorem findNow_eq {P : Program} {t kt et : TypeId} {kv : α → Value} (K : KeyT P t kt et kv) {vv : β → Value} (a : α) {d : TypeDesc} (hd : P.underlying kt = some d) : ∀ (es : List MapEntry) (D : List (α × β)) (i : Nat),
    es.map (fun e => (e.key, e.val)) = D.map (fun p => (kv p.1, vv p.2)) →
    (getD D a = none ∧ Instr.findNow d (kv a) es i = some none) ∨ (∃ j b, getD D a = some b ∧ Instr.findNow d (kv a) es i = some (some (i + j, vv b)) ∧ j < es.length ∧ (es[j]?.map (·.key)) = some (kv a) ∧ (D.map (·.1))[j]? = some a ∧ ∀ l, l < j → (D.map (·.1))[l]? ≠ some a) := by
  intro es
  obtain ⟨d', hd', hs, _⟩ := K.now
  rw [hd] at hd'; cases hd'
  induction es with
  | nil => intro D i h; cases D with | nil => exact .inl ⟨rfl, rfl⟩ | cons _ _ => simp at h
  | cons e es ih =>
    intro D i h
    cases D with
    | nil => simp at h
    | cons p D =>
      simp only [List.map_cons, List.cons.injEq, Prod.mk.injEq] at h
      obtain ⟨⟨h1, h2⟩, h3⟩ := h
      obtain ⟨r, hr, hiff⟩ := hs a p.1
      rw [getD_cons]
      by_cases hp : p.1 = a
      · have hrt : r = true := hiff.2 hp.symm
        refine .inr ⟨0, p.2, by rw [if_pos hp], ?_, by simp, by simp [h1, hp], by simp [hp], fun l hl => absurd hl (Nat.not_lt_zero _)⟩
        simp only [Instr.findNow, h1, hr, hrt, h2, Nat.add_zero]
      · have hrf : r = false := by cases r with | false => rfl | true => exact absurd (hiff.1 rfl).symm hp
        rw [if_neg hp]
        have hstep : Instr.findNow d (kv a) (e :: es) i = Instr.findNow d (kv a) es (i + 1) := by simp only [Instr.findNow, h1, hr, hrf]
        rw [hstep]
        rcases ih D (i + 1) h3 with ⟨g1, g2⟩ | ⟨j, b, g1, g2, g3, g4, g5, g6⟩
        · exact .inl ⟨g1, g2⟩
        · refine .inr ⟨j + 1, b, g1, by rw [g2, show i + 1 + j = i + (j + 1) by omega], by simpa using g3, by simpa using g4, by simpa using g5, fun l hl => ?_⟩
          cases l with
          | zero => simpa using fun e => hp e
          | succ l => simpa using g6 l (by omega)

theorem findKey_run {P : Program} {t kt et : TypeId} {kv : α → Value} (K : KeyT P t kt et kv) {vv : β → Value} (a : α) {es : List MapEntry} {D : List (α × β)} (w : World)
    (h : es.map (fun e => (e.key, e.val)) = D.map (fun p => (kv p.1, vv p.2))) :
    (getD D a = none ∧ (Instr.findKey kt (kv a) es).run P w = .ok none w) ∨ (∃ j b, getD D a = some b ∧ (Instr.findKey kt (kv a) es).run P w = .ok (some (j, vv b)) w ∧ j < es.length ∧ (es[j]?.map (·.key)) = some (kv a) ∧ (D.map (·.1))[j]? = some a ∧ ∀ l, l < j → (D.map (·.1))[l]? ≠ some a) := by
  obtain ⟨d, hd, _⟩ := K.now
  unfold Instr.findKey
  simp only [Sem.run_bind, run_underlying hd, Result.andThen_ok]
  rcases findNow_eq K a hd es D 0 h with ⟨g1, g2⟩ | ⟨j, b, g1, g2, g3⟩
  · exact .inl ⟨g1, by rw [g2]; rfl⟩
  · exact .inr ⟨j, b, g1, by rw [g2, Nat.zero_add]; rfl, g3⟩

theorem run_getObj_map {P : Program} {w : World} {b : Nat} {es : Array MapEntry} {c : Nat} (h : w.heap[b]? = some (.map es c)) : (getObj b).run P w = .ok (.map es c) w := by simp [getObj, Sem.run, h]
theorem run_setObj_map {P : Program} {w : World} {b : Nat} {es : Array MapEntry} {c : Nat} (h : w.heap[b]? = some (.map es c)) (o : Obj) : (setObj b o).run P w = .ok () (setBlock w b o) := by simp [setObj, Sem.run, h, ChangeMaps.setBlock]

def okV (ok : Bool) (v : Value) (is : Bool) : Value := bif ok then .tuple #[v, .bool is] else v

theorem lookup_run {P : Program} {t kt et : TypeId} {kv : α → Value} (K : KeyT P t kt et kv) {vv : β → Value} {w : World} {b : Nat} {D : List (α × β)} (h : MapAt w b kv vv D) (a : α) (ok : Bool) {z : Value} (hz : (zeroValue et).run P w = .ok z w) :
    (Instr.lookup t (.map (some b)) (kv a) ok).run P w = .ok (match getD D a with
      | some v => okV ok (vv v) true
      | none => okV ok z false) w := by
  obtain ⟨es, c, hb, he, _⟩ := h.ex
  obtain ⟨d, hd, _, hc⟩ := K.now
  unfold Instr.lookup
  simp only [Sem.run_bind, run_underlying K.map, Result.andThen_ok, run_getObj_map hb, Sem.run_pure, hc]
  rcases findKey_run K a w he with ⟨g1, g2⟩ | ⟨j, v, g1, g2, _⟩
  · rw [g2, g1]; simp [hz]; cases ok <;> rfl
  · rw [g2, g1]; simp; cases ok <;> rfl

theorem setD_at (D : List (α × β)) (a : α) (v : β) : ∀ j, (D.map (·.1))[j]? = some a → (∀ l, l < j → (D.map (·.1))[l]? ≠ some a) → setD D a v = D.modify j (fun _ => (a, v)) := by
  induction D with
  | nil => intro j h _; simp at h
  | cons p l ih =>
    intro j h hn
    rw [setD]
    cases j with
    | zero => simp at h; simp [h]
    | succ j =>
      have : p.1 ≠ a := by have := hn 0 (by omega); simpa using this
      rw [if_neg this, List.modify_succ_cons, ih j (by simpa using h) (fun l hl => by have := hn (l + 1) (by omega); simpa using this)]
theorem setD_new (D : List (α × β)) (a : α) (v : β) (h : getD D a = none) : setD D a v = D ++ [(a, v)] := by
  induction D with
  | nil => rfl
  | cons p l ih =>
    rw [getD_cons] at h
    rw [setD]
    by_cases hp : p.1 = a
    · rw [if_pos hp] at h; cases h
    · rw [if_neg hp] at h ⊢; rw [ih h]; rfl
theorem delD_at (D : List (α × β)) (a : α) : ∀ j, (D.map (·.1))[j]? = some a → (∀ l, l < j → (D.map (·.1))[l]? ≠ some a) → delD D a = D.eraseIdx j := by
  induction D with
  | nil => intro j h _; simp at h
  | cons p l ih =>
    intro j h hn
    rw [delD]
    cases j with
    | zero => simp at h; simp [h]
    | succ j =>
      have : p.1 ≠ a := by have := hn 0 (by omega); simpa using this
      rw [if_neg this, List.eraseIdx_cons_succ, ih j (by simpa using h) (fun l hl => by have := hn (l + 1) (by omega); simpa using this)]
theorem delD_none (D : List (α × β)) (a : α) (h : getD D a = none) : delD D a = D := by
  induction D with
  | nil => rfl
  | cons p l ih =>
    rw [getD_cons] at h
    rw [delD]
    by_cases hp : p.1 = a
    · rw [if_pos hp] at h; cases h
    · rw [if_neg hp] at h ⊢; rw [ih h]

theorem update_run {P : Program} {t kt et : TypeId} {kv : α → Value} (K : KeyT P t kt et kv) {vv : β → Value} {w : World} {b : Nat} {D : List (α × β)} (h : MapAt w b kv vv D) (a : α) (v : β) :
    ∃ w', (Instr.mapUpdate t (.map (some b)) (kv a) (vv v)).run P w = .ok () w' ∧ MapAt w' b kv vv (setD D a v) ∧ Fm (· = b) w w' ∧ w'.heap.size = w.heap.size := by
  obtain ⟨es, c, hb, he, hn, hlt⟩ := h.ex
  obtain ⟨d, hd, _, hc⟩ := K.now
  unfold Instr.mapUpdate
  simp only [Sem.run_bind, run_underlying K.map, Result.andThen_ok, run_getObj_map hb, hc]
  rcases findKey_run K a w he with ⟨g1, g2⟩ | ⟨j, u, g1, g2, g3, g4, g5, g6⟩
  · rw [g2]
    simp only [Result.andThen_ok, run_setObj_map hb]
    refine ⟨_, rfl, ⟨⟨_, _, setBlock_at hb, ?_, ?_, ?_⟩, nodup_setD h.keys a v⟩, Fm.setBlock _ _ _ rfl, setBlock_size _ _ _⟩
    · rw [setD_new D a v g1]; simp [he]
    · simp only [Array.toList_push, List.map_append, List.map_cons, List.map_nil]
      rw [List.nodup_append]
      refine ⟨hn, by simp, fun x hx y hy => ?_⟩
      simp at hy
      subst hy
      obtain ⟨e, he', rfl⟩ := List.mem_map.1 hx
      have := hlt e he'
      omega
    · intro e he'
      simp only [Array.toList_push, List.mem_append, List.mem_singleton] at he'
      rcases he' with he' | rfl
      · have := hlt e he'; omega
      · simp
  · rw [g2]
    have hkey : ((es[j]?).map (·.key)).getD (kv a) = kv a := by
      have : es[j]? = es.toList[j]? := by simp
      rw [this, g4]; rfl
    simp only [Result.andThen_ok, Sem.run_bind, hkey, Instr.keyThatStays, K.bits, if_true, Sem.run_pure, run_setObj_map hb]
    have hmod : (es.modify j fun e => { e with key := kv a, val := vv v }).toList = es.toList.modify j (fun e => { e with key := kv a, val := vv v }) := by simp
    have hb1 : ∀ (l : List MapEntry) (j : Nat), (l.modify j (fun e => { e with key := kv a, val := vv v })).map (·.born) = l.map (·.born) := by
      intro l
      induction l with
      | nil => intro j; simp
      | cons e l ih => intro j; cases j <;> simp [ih]
    have hb2 : ∀ (l : List MapEntry) (D : List (α × β)) (j : Nat), l.map (fun e => (e.key, e.val)) = D.map (fun p => (kv p.1, vv p.2)) →
        (l.modify j (fun e => { e with key := kv a, val := vv v })).map (fun e => (e.key, e.val)) = (D.modify j (fun _ => (a, v))).map (fun p => (kv p.1, vv p.2)) := by
      intro l
      induction l with
      | nil => intro D j h; cases D <;> simp_all
      | cons e l ih =>
        intro D j h
        cases D with
        | nil => simp at h
        | cons p D =>
          simp only [List.map_cons, List.cons.injEq] at h
          cases j with
          | zero => simp [h.2]
          | succ j => simp [h.1, ih D j h.2]
    refine ⟨_, rfl, ⟨⟨_, _, setBlock_at hb, ?_, ?_, ?_⟩, nodup_setD h.keys a v⟩, Fm.setBlock _ _ _ rfl, setBlock_size _ _ _⟩
    · rw [hmod, hb2 _ _ _ he, setD_at D a v j g5 g6]
    · rw [hmod, hb1]; exact hn
    · intro e he'
      rw [hmod] at he'
      have : e.born ∈ (es.toList.modify j (fun e => { e with key := kv a, val := vv v })).map (·.born) := List.mem_map.2 ⟨e, he', rfl⟩
      rw [hb1] at this
      obtain ⟨e', h1, h2⟩ := List.mem_map.1 this
      rw [← h2]; exact hlt e' h1

theorem makeMap_run {P : Program} (t : TypeId) (w : World) : (Instr.makeMap t none).run P w = .ok (.map (some w.heap.size)) (w.alloc (.map #[] 0)) := by
  simp [Instr.makeMap, newObj, Sem.run]

/-! ### Ranging -/

structure RangeAt (w : World) (r b : Nat) (kv : α → Value) (vv : β → Value) (D : List (α × β)) (left : List (α × β)) : Prop where
  ex : ∃ es clock since seen, w.heap[b]? = some (.map es clock) ∧ w.heap[r]? = some (.mapIter (some b) since seen clock) ∧ es.toList.map (fun e => (e.key, e.val)) = D.map (fun p => (kv p.1, vv p.2)) ∧ (es.toList.map (·.born)).Nodup ∧ (∀ e ∈ es.toList, e.born < since) ∧ since ≤ clock ∧
    (leftOf es seen).toList.map (fun e => (e.key, e.val)) = left.map (fun p => (kv p.1, vv p.2))

theorem range_run {P : Program} {t kt et : TypeId} (ht : P.underlying t = some (.map kt et)) {kv : α → Value} {vv : β → Value} {w : World} {b : Nat} {D : List (α × β)} (h : MapAt w b kv vv D) :
    ∃ w', (Instr.range t (.map (some b))).run P w = .ok (.pointer (some ⟨w.heap.size, 0, none⟩)) w' ∧ RangeAt w' w.heap.size b kv vv D D ∧ Fm (fun _ => False) w w' ∧ w'.heap.size = w.heap.size + 1 := by
  obtain ⟨es, c, hb, he, hn, hlt⟩ := h.ex
  unfold Instr.range
  simp only [Sem.run_bind, run_underlying ht, Result.andThen_ok, run_getObj_map hb, Sem.run_pure, run_newObj]
  refine ⟨_, rfl, ⟨es, c, c, #[], (Fm.alloc (fun _ => False) w _).heap hb (fun e => e), alloc_new _ _, he, hn, hlt, Nat.le_refl _, ?_⟩, Fm.alloc _ _ _, alloc_size _ _⟩
  rw [← he]
  congr 1
  simp [leftOf]

theorem filter_born : ∀ (l : List MapEntry) (i : Nat) (e : MapEntry), l[i]? = some e → (l.map (·.born)).Nodup → l.filter (fun x => !(x.born == e.born)) = l.eraseIdx i
  | [], i, e, h, _ => by simp at h
  | x :: l, i, e, h, hn => by
    rw [List.map_cons, List.nodup_cons] at hn
    cases i with
    | zero =>
      simp at h; subst h
      simp only [List.filter_cons, beq_self_eq_true, Bool.not_true, Bool.false_eq_true, if_false, List.eraseIdx_cons_zero]
      rw [List.filter_eq_self]
      intro y hy
      have : y.born ≠ x.born := fun e => hn.1 (by rw [← e]; exact List.mem_map.2 ⟨y, hy, rfl⟩)
      simpa using this
    | succ i =>
      have hi : l[i]? = some e := by simpa using h
      have hne : x.born ≠ e.born := fun h' => hn.1 (by rw [h']; exact List.mem_map.2 ⟨e, List.mem_of_getElem? hi, rfl⟩)
      rw [List.filter_cons, if_pos (by simpa using hne), List.eraseIdx_cons_succ, filter_born l i e hi hn.2]

theorem next_run {P : Program} {kv : α → Value} {vv : β → Value} {w : World} {r b : Nat} {D left : List (α × β)} (h : RangeAt w r b kv vv D left) (ty : TypeId) :
    (left = [] ∧ (Instr.next (.pointer (some ⟨r, 0, none⟩)) false ty).run P w = .ok (.tuple #[.bool false]) w) ∨
    ∃ i p w', left[i]? = some p ∧ (Instr.next (.pointer (some ⟨r, 0, none⟩)) false ty).run P w = .ok (.tuple #[.bool true, kv p.1, vv p.2]) w' ∧ RangeAt w' r b kv vv D (left.eraseIdx i) ∧ Fm (· = r) w w' ∧ w'.heap.size = w.heap.size ∧
      (Instr.entry (.pointer (some ⟨r, 0, none⟩))).run P w' = .ok (.tuple #[kv p.1, vv p.2]) w' := by
  obtain ⟨es, c, since, seen, hb, hr, he, hn, hlt, hsc, hl⟩ := h.ex
  have hrb : r ≠ b := by rintro rfl; rw [hb] at hr; cases hr
  rcases run_next_at (P := P) w ty r b since c seen es c hr hb hlt hsc with ⟨h0, hrun⟩ | ⟨e, hmem, w1, hw1, hrun⟩
  · refine .inl ⟨?_, hrun⟩
    have : (leftOf es seen).toList = [] := by simpa using h0
    rw [this] at hl
    cases left with
    | nil => rfl
    | cons _ _ => simp at hl
  · obtain ⟨i, hi⟩ := List.getElem?_of_mem hmem
    have hkv : (left.map (fun p => (kv p.1, vv p.2)))[i]? = some (e.key, e.val) := by rw [← hl]; simp [hi]
    rw [List.getElem?_map, Option.map_eq_some_iff] at hkv
    obtain ⟨p, hp, hpe⟩ := hkv
    simp only [Prod.mk.injEq] at hpe
    obtain ⟨hk, hv⟩ := hpe
    have hb1 : w1.heap[b]? = some (.map es c) := by rcases hw1 with rfl | rfl <;> exact hb
    have hr1 : w1.heap[r]? = some (.mapIter (some b) since seen c) := by rcases hw1 with rfl | rfl <;> exact hr
    have hf1 : Fm (· = r) w w1 := by rcases hw1 with rfl | rfl; exact Fm.refl _ _; exact Fm.drew _ _
    have hf2 : Fm (· = r) w (setBlock w1 r (.mapIter (some b) since (seen.push e.born) c)) := hf1.trans (Fm.setBlock (S := (· = r)) _ _ _ rfl) (fun _ _ h => h) (fun _ _ h => h)
    have hb2 : (setBlock w1 r (.mapIter (some b) since (seen.push e.born) c)).heap[b]? = some (.map es c) := (Fm.setBlock (S := (· = r)) w1 r _ rfl).heap hb1 (fun e => hrb e.symm)
    have hr2 := setBlock_at (o := .mapIter (some b) since (seen.push e.born) c) hr1
    have hees : e ∈ es.toList := by unfold leftOf at hmem; simp at hmem ⊢; exact hmem.1
    refine .inr ⟨i, p, _, hp, by rw [hk, hv]; exact hrun, ⟨es, c, since, seen.push e.born, hb2, hr2, he, hn, hlt, hsc, ?_⟩, hf2, by rw [setBlock_size]; rcases hw1 with rfl | rfl <;> rfl, ?_⟩
    · have hnl : ((leftOf es seen).toList.map (·.born)).Nodup := by
        unfold leftOf
        rw [Array.toList_filter]
        exact hn.sublist (List.Sublist.map _ List.filter_sublist)
      have h1 : (leftOf es (seen.push e.born)).toList = (leftOf es seen).toList.filter (fun x => !(x.born == e.born)) := by
        unfold leftOf
        simp only [Array.toList_filter, List.filter_filter]
        congr 1
        funext x
        simp only [Array.contains_push, Bool.not_or]
        rw [Bool.and_comm, BEq.comm]
      rw [h1, filter_born _ i e hi hnl, ← eraseIdx_mp, ← eraseIdx_mp, hl]
    · rw [hk, hv]
      exact run_entry_at _ r b since seen es c e hr2 hb2 hees hn

def rl (w : World) (r b : Nat) : Nat := match w.heap[b]?, w.heap[r]? with
  | some (.map es _), some (.mapIter _ _ seen _) => (leftOf es seen).toList.length
  | _, _ => 0
theorem RangeAt.len {kv : α → Value} {vv : β → Value} {w : World} {r b : Nat} {D left : List (α × β)} (h : RangeAt w r b kv vv D left) : rl w r b = left.length := by
  obtain ⟨es, c, s, sn, h1, h2, _, _, _, _, hl⟩ := h.ex
  unfold rl
  rw [h1, h2]
  have := congrArg List.length hl
  simpa using this
theorem RangeAt.ne {kv : α → Value} {vv : β → Value} {w : World} {r b : Nat} {D left : List (α × β)} (h : RangeAt w r b kv vv D left) : r ≠ b := by
  obtain ⟨es, c, s, sn, h1, h2, _⟩ := h.ex; rintro rfl; rw [h1] at h2; cases h2
theorem RangeAt.map {kv : α → Value} {vv : β → Value} {w : World} {r b : Nat} {D left : List (α × β)} (h : RangeAt w r b kv vv D left) (hn : (D.map (·.1)).Nodup) : MapAt w b kv vv D := by
  obtain ⟨es, c, s, sn, h1, h2, h3, h4, h5, h6, _⟩ := h.ex
  exact ⟨⟨es, c, h1, h3, h4, fun e he => Nat.lt_of_lt_of_le (h5 e he) h6⟩, hn⟩
theorem mem_erase_or {γ : Type} {l : List γ} {i : Nat} {p q : γ} (hi : l[i]? = some p) (hq : q ∈ l) : q = p ∨ q ∈ l.eraseIdx i := by
  obtain ⟨j, hj⟩ := List.getElem?_of_mem hq
  by_cases h : j = i
  · subst h; rw [hi] at hj; cases hj; exact .inl rfl
  · right
    rw [List.mem_eraseIdx_iff_getElem?]
    exact ⟨j, h, hj⟩

end Go.Al

namespace Go.Al
set_option linter.unusedVariables false
set_option linter.unusedSimpArgs false
set_option linter.unusedSectionVars false
open Go.RowKit (Below)
open Go.ChangeMaps (setBlock)

structure ElemT (P : Program) (t e : TypeId) (sz bytes : Nat) : Prop where
  sl : P.underlying t = some (.slice e)
  info : ∃ i z, P.info? e = some i ∧ i.zero = some z ∧ i.size = sz ∧ i.bytes = bytes ∧ z.cells.size = sz
theorem elemT_of {P : Program} {t e : TypeId} {sz bytes : Nat} (h : P.underlying t = some (.slice e)) (hi : (P.info? e).map (fun i => (i.zero.map (fun z => z.cells.size), i.size, i.bytes)) = some (some sz, sz, bytes)) : ElemT P t e sz bytes := by
  refine ⟨h, ?_⟩
  cases hp : P.info? e with
  | none => rw [hp] at hi; cases hi
  | some i =>
    rw [hp] at hi
    simp only [Option.map_some, Option.some.injEq, Prod.mk.injEq] at hi
    cases hz : i.zero with
    | none => rw [hz] at hi; simp at hi
    | some z => rw [hz] at hi; simp at hi; exact ⟨i, z, rfl, hz, hi.2.1, hi.2.2, hi.1⟩

theorem own_keep {S : Nat → Prop} {w w' : World} {base : Nat} {e : TypeId} {sz : Nat} {v : Value} {n : Nat} {xs : List Value} (h : w.ownsRow base e sz v n xs) (hf : Fm S w w') (hs : ∀ k, base ≤ k → k < w.heap.size → v.ownBlock = some k → ¬ S k) : w'.ownsRow base e sz v n xs := by
  obtain ⟨h1, h2⟩ := h
  refine ⟨h1, ?_⟩
  rcases h2 with h2 | ⟨g, cap, cur, rfl, hb, hg, r⟩
  · exact .inl h2
  · exact .inr ⟨g, cap, cur, rfl, hb, hf.heap hg (hs g hb (lt_of_heap hg) rfl), r⟩
theorem own_base {w : World} {base base' : Nat} {e : TypeId} {sz : Nat} {v : Value} {n : Nat} {xs : List Value} (h : w.ownsRow base e sz v n xs) (hb : base' ≤ base) : w.ownsRow base' e sz v n xs := by
  obtain ⟨h1, h2⟩ := h
  refine ⟨h1, ?_⟩
  rcases h2 with h2 | ⟨g, cap, cur, rfl, hb', r⟩
  · exact .inl h2
  · exact .inr ⟨g, cap, cur, rfl, by omega, r⟩
theorem own_lt {w : World} {base : Nat} {e : TypeId} {sz : Nat} {v : Value} {n : Nat} {xs : List Value} (h : w.ownsRow base e sz v n xs) : ∀ k, v.ownBlock = some k → base ≤ k ∧ k < w.heap.size := h.lt
theorem own_cases {w : World} {base : Nat} {e : TypeId} {v : Value} {n : Nat} {xs : List Value} (h : w.ownsRow base e 1 v n xs) : xs.length = n ∧ ((v = .slice none 0 0 ∧ n = 0) ∨ ∃ g cap, v = .slice (some ⟨g, 0, none⟩) n cap ∧ base ≤ g ∧ g < w.heap.size ∧ ∀ j, j < n → w.cell? ⟨g, j, none⟩ = xs[j]?) := by
  have hl := h.1
  rw [Nat.mul_one] at hl
  refine ⟨hl, ?_⟩
  rcases h.2 with h2 | ⟨g, cap, cur, rfl, hb, hg, r⟩
  · exact .inl h2
  · exact .inr ⟨g, cap, rfl, hb, lt_of_heap hg, fun j hj => h.cellAt j (by omega)⟩
theorem append_row {P : Program} {t e : TypeId} {sz bytes : Nat} (E : ElemT P t e sz bytes) (hsz : 0 < sz) {w : World} {base : Nat} {v : Value} {n : Nat} {xs : List Value} (h : w.ownsRow base e sz v n xs) (ty : TypeId)
    (a : Addr) (m c : Nat) (news : List Value) (hl : news.length = m * sz) (hnews : ∀ j u, news[j]? = some u → w.cell? (a.add j) = some u) (h1 : ∀ u ∈ news, u.oneCell' = true)
    (h63 : n + m ≤ maxLen) (hbytes : (n + m) * bytes ≤ 140737488355328) (hbase : base ≤ w.heap.size) :
    ∃ v' w', (Builtin.append_ #[t, t] ty #[v, .slice (some a) m c]).run P w = .ok v' w' ∧ w'.ownsRow base e sz v' (n + m) (xs ++ news) ∧ Fm (fun b => base ≤ b) w w' ∧ (v' = .slice none 0 0 ↔ v = .slice none 0 0 ∧ m = 0) := by
  obtain ⟨i, z, hi, hz, hs, hb, hzs⟩ := E.info
  obtain ⟨v', w', hr, ho, hg, hn⟩ := run_append_own (P := P) w base t ty e i z sz bytes E.sl hi hz hs hb hzs hsz v n xs h a m c news hl hnews h1 h63 hbytes hbase
  exact ⟨v', w', hr, ho, Fm.grown hg (fun k hk _ => (h.lt k hk).1), hn⟩

variable {α β : Type} [DecidableEq α]

theorem range_delete {P : Program} {t kt et : TypeId} {kv : α → Value} (K : KeyT P t kt et kv) {vv : β → Value} {w : World} {r b : Nat} {D left : List (α × β)} (h : RangeAt w r b kv vv D left) (hn : (D.map (·.1)).Nodup) (a : α) (ha : a ∉ left.map (·.1)) (ty u : TypeId) :
    ∃ w', (Builtin.delete_ #[t, u] ty #[.map (some b), kv a]).run P w = .ok (.tuple #[]) w' ∧ RangeAt w' r b kv vv (delD D a) left ∧ Fm (· = b) w w' ∧ w'.heap.size = w.heap.size := by
  have hrb := h.ne
  obtain ⟨es, c, since, seen, hb, hr, he, hbn, hlt, hsc, hl⟩ := h.ex
  obtain ⟨d, hd, _, hc⟩ := K.now
  unfold Builtin.delete_
  simp only [List.getElem?_toArray, List.getElem?_cons_zero, List.getElem?_cons_succ, Sem.run_bind, run_underlying K.map, Result.andThen_ok, run_getObj_map hb, hc]
  rcases findKey_run K a w he with ⟨g1, g2⟩ | ⟨j, u, g1, g2, g3, g4, g5, g6⟩
  · rw [g2]
    simp only [Result.andThen_ok, Sem.run_bind, run_setObj_map hb, Sem.run_pure]
    exact ⟨_, rfl, ⟨es, c, since, seen, setBlock_at hb, (Fm.setBlock (S := (· = b)) w b _ rfl).heap hr hrb, by rw [delD_none D a g1]; exact he, hbn, hlt, hsc, hl⟩, Fm.setBlock _ _ _ rfl, setBlock_size _ _ _⟩
  · rw [g2]
    simp only [Result.andThen_ok, Sem.run_bind, run_setObj_map hb, Sem.run_pure]
    have hle : (es.eraseIdxIfInBounds j).toList = es.toList.eraseIdx j := by simp
    refine ⟨_, rfl, ⟨es.eraseIdxIfInBounds j, c, since, seen, setBlock_at hb, (Fm.setBlock (S := (· = b)) w b _ rfl).heap hr hrb, ?_, ?_, ?_, hsc, ?_⟩, Fm.setBlock _ _ _ rfl, setBlock_size _ _ _⟩
    · rw [hle, delD_at D a j g5 g6, ← eraseIdx_mp, ← eraseIdx_mp, he]
    · rw [hle, ← eraseIdx_mp]; exact hbn.sublist (List.eraseIdx_sublist _ _)
    · intro e he'
      rw [hle] at he'
      exact hlt e (List.mem_of_mem_eraseIdx he')
    · rw [← hl]
      congr 1
      unfold leftOf
      simp only [Array.toList_filter, hle]
      obtain ⟨e, hej, hek⟩ : ∃ e, es.toList[j]? = some e ∧ e.key = kv a := by
        rw [Option.map_eq_some_iff] at g4; exact g4
      have hout : (!seen.contains e.born) = false := by
        cases hs : (!seen.contains e.born) with
        | false => rfl
        | true =>
          exfalso
          have hm : e ∈ (leftOf es seen).toList := by
            unfold leftOf; simp only [Array.toList_filter, List.mem_filter]; exact ⟨List.mem_of_getElem? hej, hs⟩
          have : (e.key, e.val) ∈ left.map (fun p => (kv p.1, vv p.2)) := by rw [← hl]; exact List.mem_map.2 ⟨e, hm, rfl⟩
          obtain ⟨p, hp, hpe⟩ := List.mem_map.1 this
          simp only [Prod.mk.injEq] at hpe
          exact ha (by rw [← K.inj _ _ (hpe.1.trans hek)]; exact List.mem_map.2 ⟨p, hp, rfl⟩)
      have key : ∀ (l : List MapEntry) (j : Nat), l[j]? = some e → (l.eraseIdx j).filter (fun x => !seen.contains x.born) = l.filter (fun x => !seen.contains x.born) := by
        intro l
        induction l with
        | nil => intro j h; simp at h
        | cons x l ih =>
          intro j h
          cases j with
          | zero => simp at h; subst h; simp only [List.eraseIdx_cons_zero, List.filter_cons, hout, Bool.false_eq_true, if_false]
          | succ j => simp only [List.eraseIdx_cons_succ, List.filter_cons, ih j (by simpa using h)]
      exact key _ _ hej

end Go.Al

namespace Go.Al
set_option linter.unusedVariables false
set_option linter.unusedSimpArgs false
set_option linter.unusedSectionVars false
open Go.RowKit (Below)

structure CellsAt (w : World) (v : Value) (n sz : Nat) (xs : List Value) : Prop where
  ex : ∃ a c, v = .slice a n c ∧ n ≤ c ∧ c ≤ maxLen ∧ (a = none → n = 0 ∧ c = 0) ∧ ∀ j u, xs[j]? = some u → ∃ ad, a = some ad ∧ w.cell? (ad.add j) = some u
  len : xs.length = n * sz

def blockOf : Value → Option Nat
  | .slice (some a) _ _ => some a.block
  | _ => none

theorem add_block (a : Addr) (n : Nat) : (a.add n).block = a.block := by
  unfold Addr.add; split <;> rfl

theorem CellsAt.of_own {w : World} {base : Nat} {e : TypeId} {sz : Nat} {v : Value} {n : Nat} {xs : List Value} (h : w.ownsRow base e sz v n xs) : CellsAt w v n sz xs := by
  refine ⟨?_, h.1⟩
  rcases h.2 with ⟨rfl, rfl⟩ | ⟨g, cap, cur, rfl, hb, hg, hnc, hcm, hcs, ht⟩
  · have hl := h.1
    rw [Nat.zero_mul] at hl
    have hx := List.eq_nil_of_length_eq_zero hl
    exact ⟨none, 0, rfl, Nat.le_refl _, by simp [maxLen], fun _ => ⟨rfl, rfl⟩, fun j u hj => by rw [hx] at hj; simp at hj⟩
  · refine ⟨some ⟨g, 0, none⟩, cap, rfl, hnc, hcm, fun e => (by cases e), fun j u hj => ⟨_, rfl, ?_⟩⟩
    have hjl : j < n * sz := by rw [← h.1]; exact (List.getElem?_eq_some_iff.1 hj).1
    rw [add_none, Nat.zero_add, h.cellAt j hjl, hj]
theorem CellsAt.keep {S : Nat → Prop} {w w' : World} {v : Value} {n sz : Nat} {xs : List Value} (h : CellsAt w v n sz xs) (hf : Fm S w w') (hs : ∀ g, blockOf v = some g → ¬ S g) : CellsAt w' v n sz xs := by
  obtain ⟨⟨a, c, rfl, h1, h2, h3, h4⟩, hl⟩ := h
  refine ⟨⟨a, c, rfl, h1, h2, h3, fun j u hj => ?_⟩, hl⟩
  obtain ⟨ad, rfl, hc⟩ := h4 j u hj
  exact ⟨ad, rfl, hf.cell' hc (by rw [add_block]; exact hs _ rfl)⟩
theorem CellsAt.keepAny {S : Nat → Prop} {w w' : World} {v : Value} {n sz : Nat} {xs : List Value} (h : CellsAt w v n sz xs) (hf : Fm S w w') (hs : xs ≠ [] → ∀ g, blockOf v = some g → ¬ S g) : CellsAt w' v n sz xs := by
  by_cases hx : xs = []
  · obtain ⟨⟨a, c, rfl, h1, h2, h3, h4⟩, hl⟩ := h
    refine ⟨⟨a, c, rfl, h1, h2, h3, fun j u hj => ?_⟩, hl⟩
    rw [hx] at hj; simp at hj
  · exact h.keep hf (hs hx)
theorem CellsAt.blt {w : World} {v : Value} {n sz : Nat} {xs : List Value} (h : CellsAt w v n sz xs) (hx : xs ≠ []) : ∀ g, blockOf v = some g → g < w.heap.size := by
  obtain ⟨⟨a, c, rfl, h1, h2, h3, h4⟩, hl⟩ := h
  intro g hg
  cases xs with
  | nil => exact absurd rfl hx
  | cons x xs =>
    obtain ⟨ad, rfl, hc⟩ := h4 0 x rfl
    have : ad.block = g := by simpa [blockOf] using hg
    subst this
    rw [add_zero] at hc
    unfold World.cell? at hc
    cases hb : w.heap[ad.block]? with
    | none => simp [hb] at hc
    | some o => exact (Array.getElem?_eq_some_iff.1 hb).1
theorem CellsAt.lt {w : World} {v : Value} {n sz : Nat} {xs : List Value} (h : CellsAt w v n sz xs) : n ≤ maxLen := by
  obtain ⟨⟨a, c, rfl, h1, h2, _⟩, hl⟩ := h; omega
theorem CellsAt.lenV {w : World} {v : Value} {n sz : Nat} {xs : List Value} (h : CellsAt w v n sz xs) : lenV v = some (.int .i64 n) := by
  obtain ⟨⟨a, c, rfl, _⟩, _⟩ := h; rfl
theorem CellsAt.at {w : World} {v : Value} {n sz : Nat} {xs : List Value} (h : CellsAt w v n sz xs) (hsz : 0 < sz) {i : Nat} (hi : i < n) (k : IntKind) : ∃ ad, ixV sz v (.int k i) = some (.pointer (some ad)) ∧ blockOf v = some ad.block ∧ ∀ j, j < sz → w.cell? (ad.add j) = xs[i * sz + j]? := by
  obtain ⟨⟨a, c, rfl, h1, h2, h3, h4⟩, hl⟩ := h
  have hlt : ∀ j, j < sz → i * sz + j < xs.length := fun j hj => by
    rw [hl]
    have : (i + 1) * sz ≤ n * sz := Nat.mul_le_mul_right _ hi
    rw [Nat.succ_mul] at this; omega
  obtain ⟨ad, rfl, _⟩ := h4 (i * sz + 0) _ (List.getElem?_eq_getElem (hlt 0 hsz))
  refine ⟨_, ixV_at hi, by rw [add_block]; rfl, fun j hj => ?_⟩
  obtain ⟨ad', e, hc⟩ := h4 (i * sz + j) _ (List.getElem?_eq_getElem (hlt j hj))
  cases e
  rw [add_add, hc, List.getElem?_eq_getElem (hlt j hj)]
theorem CellsAt.at1 {w : World} {v : Value} {n : Nat} {xs : List Value} (h : CellsAt w v n 1 xs) {i : Nat} {x : Value} (hi : xs[i]? = some x) (k : IntKind) : ∃ ad, ixV 1 v (.int k i) = some (.pointer (some ad)) ∧ blockOf v = some ad.block ∧ w.cell? ad = some x := by
  have hlt : i < n := by have := (List.getElem?_eq_some_iff.1 hi).1; rw [h.len] at this; omega
  obtain ⟨ad, h1, h2, h3⟩ := h.at (by omega) hlt k
  have := h3 0 (by omega)
  rw [add_zero, Nat.mul_one, Nat.add_zero, hi] at this
  exact ⟨ad, h1, h2, this⟩

theorem bnd_at {y d i : Nat} (h : i ≤ y) (k : IntKind) : bnd y d (some (.int k i)) = some i := by
  have : bnd y d (some (.int k i)) = if 0 ≤ (i : Int) ∧ (i : Int) ≤ y then some (i : Int).toNat else none := rfl
  rw [this, if_pos ⟨by omega, by omega⟩]; simp
theorem CellsAt.hi {w : World} {v : Value} {n sz : Nat} {xs : List Value} (h : CellsAt w v n sz xs) {i : Nat} (hi : i ≤ n) (k : IntKind) : ∃ v', slV sz v none (some (.int k i)) none = some v' ∧ CellsAt w v' i sz (xs.take (i * sz)) ∧ (∀ g, blockOf v' = some g → blockOf v = some g) := by
  obtain ⟨⟨a, c, rfl, h1, h2, h3, h4⟩, hl⟩ := h
  have hv : slV sz (.slice a n c) none (some (.int k i)) none = some (.slice a i c) := by
    have e1 : bnd c n (some (.int k i)) = some i := bnd_at (by omega) k
    have e2 : bnd c c none = some c := rfl
    have e3 : bnd i 0 none = some 0 := rfl
    simp only [slV, bndH, e1, e2, e3, Option.bind_some, Option.map_some, Nat.zero_mul, Nat.sub_zero]
    congr 2
    split
    · rfl
    · cases a with
      | none => rfl
      | some a => rfl
  refine ⟨_, hv, ⟨⟨a, c, rfl, by omega, h2, fun e => ⟨by have := h3 e; omega, (h3 e).2⟩, fun j u hj => h4 j u ?_⟩, ?_⟩, ?_⟩
  · rw [List.getElem?_take] at hj; split at hj
    · exact hj
    · cases hj
  · rw [List.length_take, hl, Nat.min_eq_left (Nat.mul_le_mul_right _ hi)]
  · intro g hg; cases a <;> exact hg
theorem CellsAt.lo {w : World} {v : Value} {n sz : Nat} {xs : List Value} (h : CellsAt w v n sz xs) {i : Nat} (hi : i ≤ n) (k : IntKind) : ∃ v', slV sz v (some (.int k i)) none none = some v' ∧ CellsAt w v' (n - i) sz (xs.drop (i * sz)) ∧ (∀ g, blockOf v' = some g → blockOf v = some g) := by
  obtain ⟨⟨a, c, rfl, h1, h2, h3, h4⟩, hl⟩ := h
  have hv : slV sz (.slice a n c) (some (.int k i)) none none = some (.slice (if c = i then a else a.map (fun b => Addr.add b (i * sz))) (n - i) (c - i)) := by
    have e1 : bnd n 0 (some (.int k i)) = some i := bnd_at hi k
    have e2 : bnd c c none = some c := rfl
    simp only [slV, bndH, e1, e2, Option.bind_some, Option.map_some]
  refine ⟨_, hv, ⟨⟨_, _, rfl, by omega, by omega, fun e => ?_, fun j u hj => ?_⟩, ?_⟩, ?_⟩
  · have : a = none := by
      split at e
      · exact e
      · cases a <;> simp at e; rfl
    have := h3 this; omega
  · rw [List.getElem?_drop] at hj
    obtain ⟨ad, rfl, hc⟩ := h4 _ u hj
    have hlt := (List.getElem?_eq_some_iff.1 hj).1
    rw [hl] at hlt
    have hne : c ≠ i := by
      rintro rfl
      have : n = c := by omega
      subst this; omega
    rw [if_neg hne]
    exact ⟨_, rfl, by rw [add_add]; exact hc⟩
  · rw [List.length_drop, hl, Nat.sub_mul]
  · intro g hg
    cases a with
    | none => split at hg <;> exact hg
    | some a =>
      split at hg
      · exact hg
      · rw [← hg]; show some a.block = some (a.add (i * sz)).block; rw [add_block]

theorem append_el {P : Program} {t e : TypeId} {sz bytes : Nat} (E : ElemT P t e sz bytes) (hsz : 0 < sz) {w : World} {base : Nat} {v x : Value} {n : Nat} {xs : List Value} {k : KV} (ty : TypeId) {cs : List Value} (hcs : cs.length = sz)
    (hbs : (Instr.buildSlice t 1 #[(0, x)]).run P w = .ok (.slice (some ⟨w.heap.size, 0, none⟩) 1 1) (w.alloc (.cells cs.toArray e))) (hx : ∀ u ∈ cs, u.oneCell' = true)
    (h : w.ownsRow base e sz v n xs) (h63 : n + 1 ≤ maxLen) (hbytes : (n + 1) * bytes ≤ 140737488355328) (hbase : base ≤ w.heap.size)
    (hk : ∀ v' w', w'.ownsRow base e sz v' (n + 1) (xs ++ cs) → v' ≠ .slice none 0 0 → Fm (fun b => base ≤ b) w w' → k v' w') :
    RunS P (Instr.buildSlice t 1 #[(0, x)]) w (fun t1 w1 => RunS P (Builtin.append_ #[t, t] ty #[v, t1]) w1 k) := by
  refine RunS_ok hbs ?_
  obtain ⟨v', w', hr, ho, hf, hn⟩ := append_row E hsz (h.alloc (.cells cs.toArray e)) ty ⟨w.heap.size, 0, none⟩ 1 1 cs (by omega) (fun j u hj => by
    rw [add_none, Nat.zero_add, cell_at (alloc_new w _)]; simpa using hj) hx h63 hbytes (by rw [alloc_size]; omega)
  exact RunS_ok hr (hk v' w' ho (fun e => by have := (hn.1 e).2; omega) ((Fm.alloc _ w _).trans hf (fun _ _ h => h) (fun _ _ h => h)))

theorem cellsV_2 {w : World} {a : Addr} {x y : Value} (h0 : w.cell? a = some x) (h1 : w.cell? (a.add 1) = some y) : cellsV w a 2 = some (.agg #[x, y]) := by
  have h0' : w.cell? (a.add 0) = some x := h0
  simp [cellsV, cellsAt, h0', h1]
theorem setCell_at {w : World} {b : Nat} {cs : Array Value} {t : TypeId} {fz : Nat × Nat} (h : w.heap[b]? = some (.cells cs t fz)) (j : Nat) (u : Value) : (w.setCell ⟨b, j, none⟩ u).heap[b]? = some (.cells (cs.setIfInBounds j u) t fz) := by
  simp [World.setCell, Array.getElem?_modify, h]
theorem frozen_at {w : World} {b : Nat} {cs : Array Value} {t : TypeId} (h : w.heap[b]? = some (.cells cs t)) (j : Nat) : w.frozen? ⟨b, j, none⟩ = false := by
  simp [World.frozen?, h]
theorem St_blk {w : World} {b j : Nat} {cs : Array Value} {t : TypeId} {u : Value} {k : KV} (hb : w.heap[b]? = some (.cells cs t)) (hj : j < cs.size) (hu : u.oneCell' = true) (h : ∀ w', w'.heap[b]? = some (.cells (cs.setIfInBounds j u) t) → w'.heap.size = w.heap.size → Fm (· = b) w w' → k undef w') : St 1 w (.pointer (some ⟨b, j, none⟩)) u k := by
  have hc : w.cell? ⟨b, j, none⟩ = some cs[j] := by rw [cell_at hb]; simp [hj]
  exact St_one hu hc (frozen_at hb j) (h _ (setCell_at hb j u) (by simp [World.setCell]) (Fm.setCell w ⟨b, j, none⟩ u rfl))
def ov : Array Value → Nat → List Value → Array Value
  | cs, _, [] => cs
  | cs, i, v :: l => ov (cs.setIfInBounds i v) (i + 1) l
theorem stC_blk {b o : Nat} {t : TypeId} : ∀ (l : List Value) (i : Nat) (w : World) (cs : Array Value), w.heap[b]? = some (.cells cs t) → o + i + l.length ≤ cs.size → (∀ u ∈ l, u.oneCell' = true) →
    ∃ w', stC ⟨b, o, none⟩ i l w = some w' ∧ w'.heap[b]? = some (.cells (ov cs (o + i) l) t) ∧ w'.heap.size = w.heap.size ∧ Fm (· = b) w w'
  | [], i, w, cs, hb, _, _ => ⟨w, rfl, hb, rfl, Fm.refl _ _⟩
  | v :: l, i, w, cs, hb, hl, h1 => by
    simp only [List.length_cons] at hl
    have hc : w.cell? ⟨b, o + i, none⟩ = some (cs[o + i]'(by omega)) := by rw [cell_at hb]; simp
    obtain ⟨w', e1, e2, e3, e4⟩ := stC_blk (b := b) (o := o) l (i + 1) (w.setCell ⟨b, o + i, none⟩ v) (cs.setIfInBounds (o + i) v) (setCell_at hb (o + i) v) (by rw [Array.size_setIfInBounds]; omega) (fun u hu => h1 u (by simp [hu]))
    refine ⟨w', ?_, e2, by rw [e3]; simp [World.setCell], (Fm.setCell (S := (· = b)) w ⟨b, o + i, none⟩ v rfl).trans e4 (fun _ _ e => e) (fun _ _ e => e)⟩
    simp only [stC, h1 v (by simp), cond_true, add_none, hc, frozen_at hb (o + i), cond_false]
    exact e1
theorem St_blkN {w : World} {b o n : Nat} {cs : Array Value} {t : TypeId} {us : Array Value} {k : KV} (hb : w.heap[b]? = some (.cells cs t)) (hn : us.size = n) (hj : o + n ≤ cs.size) (hu : ∀ u ∈ us.toList, u.oneCell' = true) (h : ∀ w', w'.heap[b]? = some (.cells (ov cs o us.toList) t) → w'.heap.size = w.heap.size → Fm (· = b) w w' → k undef w') : St n w (.pointer (some ⟨b, o, none⟩)) (.agg us) k := by
  obtain ⟨w', e1, e2, e3, e4⟩ := stC_blk (o := o) us.toList 0 w cs hb (by rw [Array.length_toList]; omega) hu
  refine ⟨?_⟩
  have hc : (Value.agg us).cells = us := rfl
  simp only [St0, hc, hn, Nat.beq_refl, cond_true, e1]
  exact h w' e2 e3 e4
theorem own_one {w : World} {base : Nat} {e : TypeId} {sz : Nat} {v : Value} {n : Nat} {xs : List Value} (h : w.ownsRow base e sz v n xs) : v.oneCell' = true := by
  rcases h.2 with ⟨rfl, _⟩ | ⟨g, cap, cur, rfl, _⟩ <;> rfl

theorem own_apart {w : World} {b1 b2 : Nat} {e1 e2 : TypeId} {s1 s2 : Nat} {v1 v2 : Value} {n1 n2 : Nat} {x1 x2 : List Value} (h1 : w.ownsRow b1 e1 s1 v1 n1 x1) (h2 : w.ownsRow b2 e2 s2 v2 n2 x2) (he : e1 ≠ e2) : ∀ k, v1.ownBlock = some k → v2.ownBlock ≠ some k := by
  intro k hk1 hk2
  rcases h1.2 with ⟨rfl, _⟩ | ⟨g, c, cur, rfl, _, hg, _⟩
  · simp [Value.ownBlock] at hk1
  rcases h2.2 with ⟨rfl, _⟩ | ⟨g', c', cur', rfl, _, hg', _⟩
  · simp [Value.ownBlock] at hk2
  simp [Value.ownBlock] at hk1 hk2
  subst hk1 hk2
  rw [hg] at hg'
  cases hg'
  exact he rfl
theorem append_fine {P : Program} {t e : TypeId} {sz bytes : Nat} (E : ElemT P t e sz bytes) (hsz : 0 < sz) {w : World} {base : Nat} {v : Value} {n : Nat} {xs : List Value} (h : w.ownsRow base e sz v n xs) (ty : TypeId)
    (a : Addr) (m c : Nat) (hm : 0 < m) (news : List Value) (hl : news.length = m * sz) (hnews : ∀ j u, news[j]? = some u → w.cell? (a.add j) = some u) (h1 : ∀ u ∈ news, u.oneCell' = true)
    (h63 : n + m ≤ maxLen) (hbytes : (n + m) * bytes ≤ 140737488355328) (hbase : base ≤ w.heap.size) :
    ∃ v' w', (Builtin.append_ #[t, t] ty #[v, .slice (some a) m c]).run P w = .ok v' w' ∧ w'.ownsRow base e sz v' (n + m) (xs ++ news) ∧
      ((∃ g, v.ownBlock = some g ∧ v'.ownBlock = some g ∧ Fm (· = g) w w') ∨ (∃ g, v'.ownBlock = some g ∧ w.heap.size ≤ g ∧ Fm (fun _ => False) w w')) := by
  obtain ⟨i, z, hi, hz, hs, hb, hzs⟩ := E.info
  obtain ⟨v', w', hr, ho, hg, hn⟩ := run_append_own (P := P) w base t ty e i z sz bytes E.sl hi hz hs hb hzs hsz v n xs h a m c news hl hnews h1 h63 hbytes hbase
  refine ⟨v', w', hr, ho, ?_⟩
  unfold maxLen at h63
  rcases h.2 with ⟨rfl, rfl⟩ | ⟨g, cap, cur, rfl, hbg, hgg, hnc, hcm, hcs, htake⟩
  · have hr2 := run_append_nil (P := P) w t ty e i z E.sl hi hz a m c news (by rw [hs]; exact hl) hnews (by omega) (by omega) (by rw [hb]; rw [Nat.zero_add] at hbytes; omega)
    rw [hr] at hr2
    cases hr2
    exact .inr ⟨w.heap.size, rfl, Nat.le_refl _, (Fm.drew _ w).trans (Fm.alloc _ w.drew _) (fun _ _ e => e) (fun _ _ e => e)⟩
  · by_cases hroom : n + m ≤ cap
    · have hfit : n * i.size + news.length ≤ cur.size := by rw [hl, hcs, hs, ← Nat.add_mul]; exact Nat.mul_le_mul_right _ hroom
      have hr2 := run_append_room (P := P) w t ty e i E.sl hi g n cap cur hgg a m c news (by rw [hs]; exact hl) hnews h1 hroom hfit
      rw [hr] at hr2
      cases hr2
      exact .inl ⟨g, rfl, rfl, Fm.grown hg (fun k hk _ => by cases hk; rfl)⟩
    · have holds : ∀ j u, xs[j]? = some u → w.cell? ((⟨g, 0, none⟩ : Addr).add j) = some u := h.cells (g := g) rfl
      have hr2 := run_append_grow (P := P) w t ty e i z E.sl hi hz ⟨g, 0, none⟩ n cap xs (by rw [hs]; exact h.1) holds a m c news (by rw [hs]; exact hl) hnews (by omega) (by omega) (by rw [hb]; exact growslice_fits (by omega) hbytes)
      rw [hr] at hr2
      cases hr2
      exact .inr ⟨w.heap.size, rfl, Nat.le_refl _, (Fm.drew _ w).trans (Fm.alloc _ w.drew _) (fun _ _ e => e) (fun _ _ e => e)⟩
theorem append_elF {P : Program} {t e : TypeId} {sz bytes : Nat} (E : ElemT P t e sz bytes) (hsz : 0 < sz) {w : World} {base : Nat} {v x : Value} {n : Nat} {xs : List Value} {k : KV} (ty : TypeId) {cs : List Value} (hcs : cs.length = sz)
    (hbs : (Instr.buildSlice t 1 #[(0, x)]).run P w = .ok (.slice (some ⟨w.heap.size, 0, none⟩) 1 1) (w.alloc (.cells cs.toArray e))) (hx : ∀ u ∈ cs, u.oneCell' = true)
    (h : w.ownsRow base e sz v n xs) (h63 : n + 1 ≤ maxLen) (hbytes : (n + 1) * bytes ≤ 140737488355328) (hbase : base ≤ w.heap.size)
    (hk : ∀ v' w', w'.ownsRow base e sz v' (n + 1) (xs ++ cs) → ((∃ g, v.ownBlock = some g ∧ v'.ownBlock = some g ∧ Fm (· = g) w w') ∨ (∃ g, v'.ownBlock = some g ∧ w.heap.size ≤ g ∧ Fm (fun _ => False) w w')) → k v' w') :
    RunS P (Instr.buildSlice t 1 #[(0, x)]) w (fun t1 w1 => RunS P (Builtin.append_ #[t, t] ty #[v, t1]) w1 k) := by
  refine RunS_ok hbs ?_
  have hfa := Fm.alloc (fun _ => False) w (.cells cs.toArray e)
  obtain ⟨v', w', hr, ho, hc⟩ := append_fine E hsz (h.alloc (.cells cs.toArray e)) ty ⟨w.heap.size, 0, none⟩ 1 1 (by omega) cs (by omega) (fun j u hj => by
    rw [add_none, Nat.zero_add, cell_at (alloc_new w _)]; simpa using hj) hx h63 hbytes (by rw [alloc_size]; omega)
  refine RunS_ok hr (hk v' w' ho ?_)
  rcases hc with ⟨g, h1, h2, h3⟩ | ⟨g, h1, h2, h3⟩
  · exact .inl ⟨g, h1, h2, hfa.trans h3 (fun _ _ e => e.elim) (fun _ _ e => e)⟩
  · rw [alloc_size] at h2
    exact .inr ⟨g, h1, by omega, hfa.trans h3 (fun _ _ e => e) (fun _ _ e => e)⟩

def VRow (w : World) (g : Nat) (e : TypeId) (xs : List Value) : Prop := w.heap[g]? = some (.cells xs.toArray e)
theorem VRow.keep {S : Nat → Prop} {w w' : World} {g : Nat} {e : TypeId} {l : List Value} (h : VRow w g e l) (hf : Fm S w w') (hs : ¬ S g) : VRow w' g e l := hf.heap h hs
theorem VRow.lt {w : World} {g : Nat} {e : TypeId} {l : List Value} (h : VRow w g e l) : g < w.heap.size := lt_of_heap h
theorem VRow.cell {w : World} {g : Nat} {e : TypeId} {l : List Value} (h : VRow w g e l) (i : Nat) : w.cell? ⟨g, i, none⟩ = l[i]? := by
  rw [cell_at h, List.getElem?_toArray]
theorem VRow.put {w : World} {g : Nat} {e : TypeId} {l : List Value} (h : VRow w g e l) {i : Nat} (hi : i < l.length) {u : Value} (hu : u.oneCell' = true) {k : KV}
    (hk : ∀ w', VRow w' g e (l.set i u) → w'.heap.size = w.heap.size → Fm (· = g) w w' → k undef w') : St 1 w (.pointer (some ⟨g, i, none⟩)) u k := by
  refine St_blk h (by rw [List.size_toArray]; exact hi) hu fun w' h1 h2 h3 => hk w' ?_ h2 h3
  unfold VRow
  rw [h1]
  congr 2
  apply Array.ext'
  simp only [Array.toList_setIfInBounds]
def PRow (w : World) (g : Nat) (e : TypeId) (xs : List Value) : Prop := ∃ ys, VRow w g e (xs ++ ys)
theorem PRow.keep {S : Nat → Prop} {w w' : World} {g : Nat} {e : TypeId} {l : List Value} (h : PRow w g e l) (hf : Fm S w w') (hs : ¬ S g) : PRow w' g e l := by
  obtain ⟨ys, h⟩ := h; exact ⟨ys, h.keep hf hs⟩
theorem PRow.lt {w : World} {g : Nat} {e : TypeId} {l : List Value} (h : PRow w g e l) : g < w.heap.size := by obtain ⟨ys, h⟩ := h; exact h.lt
theorem PRow.cell {w : World} {g : Nat} {e : TypeId} {l : List Value} (h : PRow w g e l) {i : Nat} {x : Value} (hi : l[i]? = some x) : w.cell? ⟨g, i, none⟩ = some x := by
  obtain ⟨ys, h⟩ := h
  rw [h.cell, List.getElem?_append_left (List.getElem?_eq_some_iff.1 hi).1, hi]
theorem PRow.put {w : World} {g : Nat} {e : TypeId} {l : List Value} (h : PRow w g e l) {i : Nat} (hi : i < l.length) {u : Value} (hu : u.oneCell' = true) {k : KV}
    (hk : ∀ w', PRow w' g e (l.set i u) → w'.heap.size = w.heap.size → Fm (· = g) w w' → k undef w') : St 1 w (.pointer (some ⟨g, i, none⟩)) u k := by
  obtain ⟨ys, h⟩ := h
  refine h.put (by simp; omega) hu fun w' h1 h2 h3 => hk w' ⟨ys, ?_⟩ h2 h3
  rw [List.set_append_left _ _ hi] at h1; exact h1
theorem PRow.of_own {w : World} {base : Nat} {e : TypeId} {v : Value} {n : Nat} {xs : List Value} (h : w.ownsRow base e 1 v n xs) (hn : n ≠ 0) : ∃ g cap, v = .slice (some ⟨g, 0, none⟩) n cap ∧ base ≤ g ∧ v.ownBlock = some g ∧ n ≤ cap ∧ PRow w g e xs := by
  rcases h.2 with ⟨_, h2⟩ | ⟨g, cap, cur, rfl, hb, hg, h1, h2, h3, h4⟩
  · exact absurd h2 hn
  · refine ⟨g, cap, rfl, hb, rfl, h1, cur.toList.drop (n * 1), ?_⟩
    unfold VRow
    rw [hg, ← h4, List.take_append_drop]
theorem info_of {P : Program} {e : TypeId} {z : Value} {n b : Nat} (h : (P.info? e).map (fun i => (i.zero, i.size, i.bytes)) = some (some z, n, b)) : ∃ i, P.info? e = some i ∧ i.zero = some z ∧ i.size = n ∧ i.bytes = b := by
  cases hp : P.info? e with
  | none => rw [hp] at h; cases h
  | some i =>
    rw [hp] at h
    simp only [Option.map_some, Option.some.injEq, Prod.mk.injEq] at h
    exact ⟨i, rfl, h⟩
theorem cellsAt_blk {w : World} {b : Nat} {cs : Array Value} {t : TypeId} {fz : Nat × Nat} (h : w.heap[b]? = some (.cells cs t fz)) : ∀ (k i : Nat), i + k ≤ cs.size → cellsAt w ⟨b, 0, none⟩ i k = some ((cs.toList.drop i).take k)
  | 0, i, _ => by simp [cellsAt]
  | k + 1, i, hi => by
    have hlt : i < cs.toList.length := by rw [Array.length_toList]; omega
    have hc : w.cell? ((⟨b, 0, none⟩ : Addr).add i) = some (cs.toList[i]) := by rw [add_none, Nat.zero_add, cell_at h]; simp
    simp only [cellsAt, hc, cellsAt_blk h k (i + 1) (by omega), Option.map_some]
    rw [List.drop_eq_getElem_cons hlt, List.take_succ_cons]
theorem cellsV_blk {w : World} {b : Nat} {cs : Array Value} {t : TypeId} {fz : Nat × Nat} (h : w.heap[b]? = some (.cells cs t fz)) {n : Nat} (hn : cs.size = n) : cellsV w ⟨b, 0, none⟩ n = some (.agg cs) := by
  unfold cellsV
  rw [cellsAt_blk h n 0 (by omega)]
  simp only [List.drop_zero, Option.map_some]
  rw [List.take_of_length_le (by rw [Array.length_toList]; omega)]
theorem resV_blk {P : Program} {f : Fr} {w : World} {a : Nat} {t ty : TypeId} {g n : Nat} {cs : Array Value} {fz : Nat × Nat} (hf : f a = .pointer (some ⟨g, 0, none⟩)) (hA : aggB P t = some true) (hS : sizeB P t = some n) (hb : w.heap[g]? = some (.cells cs ty fz)) (hn : cs.size = n) : resV P f w (.cell a t) = some (.agg cs) := by
  have h := cellsAt_blk hb n 0 (by omega)
  rw [List.drop_zero, List.take_of_length_le (by rw [Array.length_toList]; omega)] at h
  simp only [resV, hf, hA, hS, h, Option.map_some]
theorem St_all {w : World} {b n : Nat} {cs : Array Value} {t : TypeId} {us : Array Value} {k : KV} (hb : w.heap[b]? = some (.cells cs t)) (hc : cs.size = n) (hn : us.size = n) (hu : ∀ u ∈ us.toList, u.oneCell' = true) (h : ∀ w', w'.heap[b]? = some (.cells us t) → w'.heap.size = w.heap.size → Fm (· = b) w w' → k undef w') : St n w (.pointer (some ⟨b, 0, none⟩)) (.agg us) k := by
  refine St_blkN hb hn (by omega) hu fun w' h1 h2 h3 => h w' ?_ h2 h3
  rw [h1]
  congr 2
  have key : ∀ (l : List Value) (cs : Array Value) (o : Nat), o + l.length = cs.size → (ov cs o l).toList = cs.toList.take o ++ l := by
    intro l
    induction l with
    | nil => intro cs o ho; simp only [ov, List.append_nil]; rw [List.take_of_length_le (by rw [Array.length_toList]; simp at ho; omega)]
    | cons v l ih =>
      intro cs o ho
      simp only [List.length_cons] at ho
      rw [ov, ih _ (o + 1) (by rw [Array.size_setIfInBounds]; omega), Array.toList_setIfInBounds]
      have hlt : o < cs.toList.length := by rw [Array.length_toList]; omega
      rw [List.take_set, List.take_add_one, List.getElem?_eq_getElem hlt]
      simp only [Option.toList_some]
      rw [List.set_append_right _ _ (by rw [List.length_take]; omega), List.length_take, Nat.min_eq_left (by omega), Nat.sub_self, List.set_cons_zero, List.append_assoc]; rfl
  apply Array.ext'
  have := key us.toList cs 0 (by rw [Array.length_toList]; omega)
  simpa using this

end Go.Al

namespace Go.Al
set_option linter.unusedVariables false
set_option linter.unusedSimpArgs false
set_option linter.unusedSectionVars false

abbrev Bs := List UInt8
def str (l : Bs) : ByteArray := ⟨l.toArray⟩
theorem str_size (l : Bs) : (str l).size = l.length := by simp [str, ByteArray.size]
theorem str_inj {a b : Bs} : str a = str b ↔ a = b := by
  constructor
  · intro h
    have h2 : (str a).data = (str b).data := by rw [h]
    simpa [str] using h2
  · rintro rfl; rfl
theorem str_append (a b : Bs) : str a ++ str b = str (a ++ b) := by
  apply ByteArray.ext
  simp [str, ByteArray.data_append]
theorem str_extract (l : Bs) (i j : Nat) : (str l).extract i j = str ((l.take j).drop i) := by
  apply ByteArray.ext
  apply Array.ext'
  rw [ByteArray.data_extract, Array.toList_extract]
  simp only [str, List.extract_eq_take_drop]
  rw [List.drop_take]
theorem str_data (s : ByteArray) : str s.data.toList = s := by
  apply ByteArray.ext
  simp [str]
theorem str_nil : ByteArray.mk #[] = str [] := rfl
abbrev stv (l : Bs) : Value := .string (str l)
theorem binV_sadd (d : TypeDesc) (a b : Bs) (h : a.length + b.length ≤ 9223372036854775807) : binV d .add (stv a) (stv b) = some (stv (a ++ b)) := by
  have : ¬ (((str a).size + (str b).size : Nat) : Int) > IntKind.i64.max := by
    rw [str_size, str_size]; show ¬ _ > (9223372036854775807 : Int); omega
  simp only [binV, binS, if_neg this, str_append]
theorem slS_hi {l : Bs} {i : Nat} (h : i ≤ l.length) (k : IntKind) : slS (stv l) none (some (.int k i)) = some (stv (l.take i)) := by
  have e1 : bnd (str l).size (str l).size (some (.int k i)) = some i := bnd_at (by rw [str_size]; exact h) k
  have e2 : bnd i 0 none = some 0 := rfl
  simp only [slS, e1, e2, Option.bind_some, Option.map_some, str_extract, List.drop_zero]
theorem slS_lo {l : Bs} {i : Nat} (h : i ≤ l.length) (k : IntKind) : slS (stv l) (some (.int k i)) none = some (stv (l.drop i)) := by
  have e1 : bnd (str l).size (str l).size none = some (str l).size := rfl
  have e2 : bnd (str l).size 0 (some (.int k i)) = some i := bnd_at (by rw [str_size]; exact h) k
  rw [str_size] at e1 e2
  simp only [slS, str_size, e1, e2, Option.bind_some, Option.map_some, str_extract, List.take_length]
theorem slS_lh {l : Bs} {i j : Nat} (hij : i ≤ j) (h : j ≤ l.length) (k k' : IntKind) : slS (stv l) (some (.int k i)) (some (.int k' j)) = some (stv ((l.drop i).take (j - i))) := by
  have e1 : bnd (str l).size (str l).size (some (.int k' j)) = some j := bnd_at (by rw [str_size]; exact h) k'
  have e2 : bnd j 0 (some (.int k i)) = some i := bnd_at hij k
  simp only [slS, e1, e2, Option.bind_some, Option.map_some, str_extract, List.drop_take]

def bc (l : Bs) : List Value := l.map fun b => Value.int .u8 b.toNat
theorem bc_len (l : Bs) : (bc l).length = l.length := by simp [bc]
theorem bc_append (a b : Bs) : bc (a ++ b) = bc a ++ bc b := by simp [bc]
theorem bc_take (l : Bs) (i : Nat) : (bc l).take i = bc (l.take i) := by simp [bc, List.map_take]
theorem bc_drop (l : Bs) (i : Nat) : (bc l).drop i = bc (l.drop i) := by simp [bc, List.map_drop]
theorem bc_one (l : Bs) : ∀ u ∈ bc l, u.oneCell' = true := by
  intro u hu; obtain ⟨b, _, rfl⟩ := List.mem_map.1 hu; rfl
theorem bc_get (l : Bs) (i : Nat) : (bc l)[i]? = (l[i]?).map fun b => Value.int .u8 b.toNat := by simp [bc]
structure ByteT (P : Program) (t e s : TypeId) : Prop where
  sl : P.underlying t = some (.slice e)
  u8 : P.underlying e = some (.int .u8)
  st : P.underlying s = some .string
  info : ∃ i, P.info? e = some i ∧ i.zero = some (.int .u8 0) ∧ i.size = 1 ∧ i.bytes = 1
theorem byteT_of {P : Program} {t e s : TypeId} (h1 : P.underlying t = some (.slice e)) (h2 : P.underlying e = some (.int .u8)) (h3 : P.underlying s = some .string)
    (hi : (P.info? e).map (fun i => (i.zero.map (fun z => match z with | .int .u8 0 => true | _ => false), i.size, i.bytes)) = some (some true, 1, 1)) : ByteT P t e s := by
  refine ⟨h1, h2, h3, ?_⟩
  cases hp : P.info? e with
  | none => rw [hp] at hi; cases hi
  | some i =>
    rw [hp] at hi
    simp only [Option.map_some, Option.some.injEq, Prod.mk.injEq] at hi
    cases hz : i.zero with
    | none => rw [hz] at hi; simp at hi
    | some z =>
      rw [hz] at hi
      simp only [Option.map_some, Option.some.injEq] at hi
      refine ⟨i, rfl, ?_, hi.2.1, hi.2.2⟩
      have := hi.1
      split at this
      · exact hz
      · cases this
def BRow (w : World) (g : Nat) (e : TypeId) (l : Bs) : Prop := w.heap[g]? = some (.cells (bc l).toArray e)
theorem BRow.keep {S : Nat → Prop} {w w' : World} {g : Nat} {e : TypeId} {l : Bs} (h : BRow w g e l) (hf : Fm S w w') (hs : ¬ S g) : BRow w' g e l := hf.heap h hs
theorem BRow.lt {w : World} {g : Nat} {e : TypeId} {l : Bs} (h : BRow w g e l) : g < w.heap.size := lt_of_heap h
theorem BRow.cell {w : World} {g : Nat} {e : TypeId} {l : Bs} (h : BRow w g e l) (i : Nat) : w.cell? ⟨g, i, none⟩ = (l[i]?).map fun b => Value.int .u8 b.toNat := by
  rw [cell_at h, List.getElem?_toArray, bc_get]

theorem BRow.make {P : Program} {t e s : TypeId} (B : ByteT P t e s) (w : World) (n : Nat) (h : n ≤ 281474976710656) :
    (Instr.makeSlice t (.int .i64 n) (.int .i64 n)).run P w = .ok (.slice (some ⟨w.heap.size, 0, none⟩) n n) (w.alloc (.cells (bc (List.replicate n 0)).toArray e)) := by
  obtain ⟨i, h1, h2, h3, h4⟩ := B.info
  have hr := run_make (P := P) w t e i _ B.sl h1 h2 .i64 .i64 n n (by omega) (Int.le_refl _) (by rw [h4]; omega) (by omega)
  rw [hr]
  congr 3
  simp only [Int.toNat_natCast]
  congr 1
  rw [h3, Nat.mul_one]
  apply Array.ext'
  apply List.ext_getElem?
  intro j
  simp only [madeCells, bc, List.map_replicate, Array.toList_map, Array.toList_range, List.getElem?_map, List.getElem?_replicate, List.getElem?_range]
  have hz : ∀ q, (Value.cells (.int .u8 0))[q % (Value.cells (.int .u8 0)).size]! = Value.int .u8 0 := by
    intro q
    have : (Value.cells (.int .u8 0)).size = 1 := rfl
    rw [this, Nat.mod_one]; rfl
  by_cases hj : j < n
  · rw [if_pos hj, List.getElem?_range hj]; simp [hz]
  · rw [if_neg hj, List.getElem?_eq_none (by simpa using hj)]; rfl

theorem BRow.conv {P : Program} {t e s : TypeId} (B : ByteT P t e s) {w : World} {g : Nat} {e' : TypeId} {l : Bs} (h : BRow w g e' l) {o n : Nat} (hn : o + n ≤ l.length) (c : Nat) :
    (convert t s (.slice (some ⟨g, o, none⟩) n c)).run P w = .ok (stv ((l.drop o).take n)) w := by
  have hr := run_convert_bytes_arg (P := P) w t e B.sl B.u8 g o n c (((l.drop o).take n).map fun b => (b.toNat : Int)) (by simp; omega) (fun i hi => by
    rw [h.cell]
    have : o + i < l.length := by omega
    simp [List.getD, List.getElem?_take, hi, List.getElem?_drop, this]) s B.st
  rw [hr]
  congr 2
  apply ByteArray.ext
  simp only [strOfNums, str, List.map_map]
  congr 1
  conv => rhs; rw [← List.map_id ((l.drop o).take n)]
  apply List.map_congr_left
  intro x _
  simp
theorem conv_nil {P : Program} {t e s : TypeId} (B : ByteT P t e s) (w : World) (n c : Nat) : (convert t s (.slice none n c)).run P w = .ok (stv []) w := by
  rw [run_convert_bytes_nil (P := P) w t e B.sl B.u8 n c s B.st]; rfl

theorem BRow.copyS {P : Program} {t e s : TypeId} (B : ByteT P t e s) {w : World} {g : Nat} {l : Bs} (h : BRow w g e l) {o n : Nat} {x : Bs} (hx : x.length ≤ n) (hn : o + x.length ≤ l.length) (c : Nat) (ty : TypeId) :
    ∃ w', (Builtin.copy_ #[t, s] ty #[.slice (some ⟨g, o, none⟩) n c, stv x]).run P w = .ok (goInt x.length) w' ∧ BRow w' g e (l.take o ++ x ++ l.drop (o + x.length)) ∧ w'.heap.size = w.heap.size ∧ Fm (· = g) w w' := by
  obtain ⟨i, h1, h2, h3, h4⟩ := B.info
  have hr := Lib.run_copy_row_string (P := P) w t s ty e g o n c (str x) _ e B.sl (by rw [h1]; simp [h3]) h (by rw [str_size]; exact hx) (by rw [str_size, List.size_toArray, bc_len]; exact hn)
  rw [str_size] at hr
  refine ⟨_, hr, ?_, ?_, ?_⟩
  · show (w.setRow g _).heap[g]? = _
    rw [setRow_heap w g _ _ e _ h]
    congr 2
    rw [show Lib.byteCells (str x).data.toList = bc x from rfl, bc_append, bc_append, bc_take, bc_drop]
  · simp
  · exact ⟨rfl, rfl, rfl, by simp, fun b hb hs => setRow_other w g b _ hs⟩

theorem BRow.put {w : World} {g : Nat} {e : TypeId} {l : Bs} (h : BRow w g e l) {i : Nat} (hi : i < l.length) {b : UInt8} {k : KV}
    (hk : ∀ w', BRow w' g e (l.set i b) → w'.heap.size = w.heap.size → Fm (· = g) w w' → k undef w') : St 1 w (.pointer (some ⟨g, i, none⟩)) (.int .u8 b.toNat) k := by
  refine St_blk h (by rw [List.size_toArray, bc_len]; exact hi) rfl fun w' h1 h2 h3 => hk w' ?_ h2 h3
  unfold BRow
  rw [h1]
  congr 2
  apply Array.ext'
  simp only [Array.toList_setIfInBounds, bc, List.map_set]
def BX (w : World) (g : Nat) (e : TypeId) (l : Bs) : Prop := ∃ cs fz, w.heap[g]? = some (.cells cs e fz) ∧ cs.toList.take l.length = bc l ∧ l.length ≤ cs.size ∧ (fz = (0, 0) ∨ l.length ≤ fz.1)
theorem BX.cell {w : World} {g : Nat} {e : TypeId} {l : Bs} (h : BX w g e l) {i : Nat} {b : UInt8} (hi : l[i]? = some b) : w.cell? ⟨g, i, none⟩ = some (.int .u8 b.toNat) := by
  obtain ⟨cs, fz, h1, h2, h3, h4⟩ := h
  have hlt := (List.getElem?_eq_some_iff.1 hi).1
  rw [cell_at h1]
  have : (cs.toList.take l.length)[i]? = some (.int .u8 b.toNat) := by rw [h2, bc_get, hi]; rfl
  rw [List.getElem?_take, if_pos hlt] at this
  simpa using this
theorem BX.conv {P : Program} {t e s : TypeId} (B : ByteT P t e s) {w : World} {g : Nat} {e' : TypeId} {l : Bs} (h : BX w g e' l) {o n : Nat} (hn : o + n ≤ l.length) (c : Nat) :
    (convert t s (.slice (some ⟨g, o, none⟩) n c)).run P w = .ok (stv ((l.drop o).take n)) w := by
  have hr := run_convert_bytes_arg (P := P) w t e B.sl B.u8 g o n c (((l.drop o).take n).map fun b => (b.toNat : Int)) (by simp; omega) (fun i hi => by
    have hlt : o + i < l.length := by omega
    rw [h.cell (List.getElem?_eq_getElem hlt)]
    simp [List.getD, List.getElem?_take, hi, List.getElem?_drop, hlt]) s B.st
  rw [hr]
  congr 2
  apply ByteArray.ext
  simp only [strOfNums, str, List.map_map]
  congr 1
  conv => rhs; rw [← List.map_id ((l.drop o).take n)]
  apply List.map_congr_left
  intro x _
  simp
theorem append_text {P : Program} {t e s : TypeId} (B : ByteT P t e s) {w : World} {base : Nat} {v : Value} {n : Nat} {l : Bs} (h : w.ownsRow base e 1 v n (bc l)) (x : Bs) (ty : TypeId)
    (h63 : n + x.length ≤ 140737488355328) (hbase : base ≤ w.heap.size) :
    ∃ v' w', (Builtin.append_ #[t, s] ty #[v, stv x]).run P w = .ok v' w' ∧ w'.ownsRow base e 1 v' (n + x.length) (bc (l ++ x)) ∧ Fm (fun b => v.ownBlock = some b) w w' ∧ (v' = .slice none 0 0 ↔ v = .slice none 0 0 ∧ x.length = 0) := by
  obtain ⟨i, h1, h2, h3, h4⟩ := B.info
  obtain ⟨v', w', hr, ho, hg, hn⟩ := Lib.run_append_own_string (P := P) (w := w) base t s ty e i B.sl B.st h1 h2 h3 h4 v n _ h (str x) (by rw [str_size]; unfold maxLen; omega) (by rw [str_size]; omega) hbase
  rw [str_size] at ho hn
  refine ⟨v', w', hr, ?_, Fm.grown (S := fun b => v.ownBlock = some b) hg (fun k hk _ => hk), hn⟩
  rw [bc_append]; exact ho
theorem conv_own {P : Program} {t e s : TypeId} (B : ByteT P t e s) {w : World} {base : Nat} {v : Value} {n : Nat} {l : Bs} (h : w.ownsRow base e 1 v n (bc l)) : (convert t s v).run P w = .ok (stv l) w := by
  have hl := h.1
  rw [bc_len, Nat.mul_one] at hl
  rcases (own_cases h).2 with ⟨rfl, h0⟩ | ⟨g, cap, rfl, _, _, hc⟩
  · rw [h0] at hl
    rw [List.eq_nil_of_length_eq_zero hl]
    exact conv_nil B w 0 0
  · have hr := run_convert_bytes_arg (P := P) w t e B.sl B.u8 g 0 n cap (l.map fun b => (b.toNat : Int)) (by simpa using hl) (fun i hi => by
      rw [Nat.zero_add, hc i hi, bc_get]
      have : i < l.length := by omega
      simp [List.getD, this]) s B.st
    rw [hr]
    congr 2
    apply ByteArray.ext
    simp only [strOfNums, str, List.map_map]
    congr 1
    conv => rhs; rw [← List.map_id l]
    apply List.map_congr_left
    intro x _
    simp

theorem slV_lh {g o n c i j : Nat} (hij : i ≤ j) (hj : j ≤ c) (k k' : IntKind) : ∃ o', slV 1 (.slice (some ⟨g, o, none⟩) n c) (some (.int k i)) (some (.int k' j)) none = some (.slice (some ⟨g, o', none⟩) (j - i) (c - i)) ∧ (i < c → o' = o + i) ∧ o' ≤ o + i ∧ (j = i → True) := by
  have e1 : bnd c c none = some c := rfl
  have e2 : bnd c n (some (.int k' j)) = some j := bnd_at hj k'
  have e3 : bnd j 0 (some (.int k i)) = some i := bnd_at hij k
  refine ⟨if c = i then o else o + i, ?_, fun h => by rw [if_neg (by omega)], by split <;> omega, fun _ => trivial⟩
  simp only [slV, bndH, e1, e2, e3, Option.bind_some, Option.map_some]
  congr 2
  split
  · rfl
  · rw [add_none, Nat.mul_one]
def sz1 (vs : List Value) : Nat := match (vs[1]? : Option Value) with
  | some (.string s) => s.size
  | _ => 0
theorem sz1_eq (a : Value) (s : Bs) (l : List Value) : sz1 (a :: stv s :: l) = s.length := by simp [sz1, str_size]


end Go.Al

namespace Go.Al
set_option linter.unusedVariables false
set_option linter.unusedSimpArgs false

abbrev iv (n : Int) : Value := Value.int .i64 n
theorem i64_of_wf {n : Int} (h : (Lit.int .i64 n).wf = true) : -9223372036854775808 ≤ n ∧ n ≤ 9223372036854775807 := by
  have h1 : (decide (-9223372036854775808 ≤ n) && decide (n ≤ 9223372036854775807)) = true := h
  simpa using h1
theorem wrap_nat {n : Nat} (h : n ≤ 9223372036854775807) : IntKind.i64.wrap (n : Int) = n := wrap_id (by omega)
theorem quo_i64 (d : TypeDesc) {a b : Int} (hb : b ≠ 0) (h : -9223372036854775808 ≤ a.tdiv b ∧ a.tdiv b ≤ 9223372036854775807) : binV d .quo (iv a) (iv b) = some (iv (a.tdiv b)) := by
  rw [binV_quo, if_neg hb, wrap_id h]
theorem quo_nat (d : TypeDesc) {n m : Nat} (hm : 0 < m) (h : n ≤ 9223372036854775807) {b : Int} (hb : b = (m : Int)) : binV d .quo (iv n) (iv b) = some (iv ((n / m : Nat) : Int)) := by
  subst hb
  have e : (n : Int).tdiv (m : Int) = ((n / m : Nat) : Int) := by rw [Int.tdiv_eq_ediv_of_nonneg (by omega)]; rfl
  have hle : n / m ≤ n := Nat.div_le_self n m
  rw [quo_i64 d (by omega) (by rw [e]; generalize n / m = q at *; omega), e]
theorem rem_nat (d : TypeDesc) {n m : Nat} (hm : 0 < m) (h : n ≤ 9223372036854775807) {b : Int} (hb : b = (m : Int)) : binV d .rem (iv n) (iv b) = some (iv ((n % m : Nat) : Int)) := by
  subst hb
  have e : (n : Int).tmod (m : Int) = ((n % m : Nat) : Int) := by rw [Int.tmod_eq_emod_of_nonneg (by omega)]; rfl
  have hle : n % m ≤ n := Nat.mod_le n m
  rw [binV_rem, if_neg (by omega), e]
def andI (k : IntKind) (a b : Int) : Int := k.wrap ((BitVec.ofInt k.bits a) &&& (BitVec.ofInt k.bits b)).toNat
theorem binV_and (d : TypeDesc) (k : IntKind) (a b : Int) : binV d .and (.int k a) (.int k b) = some (.int k (andI k a b)) := by simp [binV, isSh, binI, andI]
theorem ofInt_nat (w n : Nat) (h : n < 2 ^ w) : (BitVec.ofInt w (n : Int)).toNat = n := by
  rw [BitVec.toNat_ofInt]
  have e : (((2 ^ w : Nat) : Int)) = (2 ^ w : Nat) := rfl
  rw [Int.emod_eq_of_lt (by omega) (by omega)]; rfl
def orI (k : IntKind) (a b : Int) : Int := k.wrap ((BitVec.ofInt k.bits a) ||| (BitVec.ofInt k.bits b)).toNat
theorem binV_or (d : TypeDesc) (k : IntKind) (a b : Int) : binV d .or (.int k a) (.int k b) = some (.int k (orI k a b)) := by simp [binV, isSh, binI, orI]
theorem and_u8 (a b : Nat) (ha : a < 256) (hb : b < 256) : andI .u8 a b = ((a &&& b : Nat) : Int) := by
  have h1 : (BitVec.ofInt 8 (a : Int)).toNat = a := ofInt_nat 8 a (by omega)
  have h2 : (BitVec.ofInt 8 (b : Int)).toNat = b := ofInt_nat 8 b (by omega)
  show IntKind.u8.wrap (((BitVec.ofInt 8 (a : Int)) &&& (BitVec.ofInt 8 (b : Int))).toNat : Int) = _
  rw [BitVec.toNat_and, h1, h2]
  have : a &&& b ≤ a := Nat.and_le_left
  generalize a &&& b = c at *
  unfold IntKind.wrap; simp [IntKind.bits, IntKind.signed]; omega
theorem or_lt {a b n : Nat} (ha : a < 2 ^ n) (hb : b < 2 ^ n) : a ||| b < 2 ^ n := Nat.or_lt_two_pow ha hb
theorem or_i64 (a b : Nat) (ha : a < 2 ^ 63) (hb : b < 2 ^ 63) : orI .i64 a b = ((a ||| b : Nat) : Int) := by
  have h1 : (BitVec.ofInt 64 (a : Int)).toNat = a := ofInt_nat 64 a (by omega)
  have h2 : (BitVec.ofInt 64 (b : Int)).toNat = b := ofInt_nat 64 b (by omega)
  show IntKind.i64.wrap (((BitVec.ofInt 64 (a : Int)) ||| (BitVec.ofInt 64 (b : Int))).toNat : Int) = _
  rw [BitVec.toNat_or, h1, h2]
  have := or_lt ha hb
  generalize a ||| b = c at *
  exact wrap_nat (by omega)
theorem or_u8 (a b : Nat) (ha : a < 256) (hb : b < 256) : orI .u8 a b = ((a ||| b : Nat) : Int) := by
  have h1 : (BitVec.ofInt 8 (a : Int)).toNat = a := ofInt_nat 8 a (by omega)
  have h2 : (BitVec.ofInt 8 (b : Int)).toNat = b := ofInt_nat 8 b (by omega)
  show IntKind.u8.wrap (((BitVec.ofInt 8 (a : Int)) ||| (BitVec.ofInt 8 (b : Int))).toNat : Int) = _
  rw [BitVec.toNat_or, h1, h2]
  have := or_lt (n := 8) ha hb
  generalize a ||| b = c at *
  unfold IntKind.wrap; simp [IntKind.bits, IntKind.signed]; omega
theorem beq_dec (a b : Int) : (a == b) = decide (a = b) := by by_cases h : a = b <;> simp [h]
theorem bne_dec (a b : Int) : (a != b) = !decide (a = b) := by by_cases h : a = b <;> simp [h]

end Go.Al

namespace Go.Al
set_option linter.unusedVariables false
set_option linter.unusedSimpArgs false
set_option linter.unusedSectionVars false

structure Dk where
  cur : List Bs
  old : List Bs
  chg : List Bool
  armed : Int
  gone : Bool
  done : Int

namespace Dk

def zsec : Bs := List.replicate 64 0
def mk0 (n : Nat) : Dk := ⟨List.replicate n zsec, List.replicate n zsec, List.replicate n false, 0, false, 0⟩
def isC (chg : List Bool) (i : Nat) : Bool := chg.getD i false
structure Wf (d : Dk) : Prop where
  n1 : d.cur.length ≤ 65536
  lo : d.old.length = d.cur.length
  lc : d.chg.length = d.cur.length
  s1 : ∀ x ∈ d.cur, x.length = 64
  s2 : ∀ x ∈ d.old, x.length = 64
  same : ∀ i, isC d.chg i = false → d.old[i]? = d.cur[i]?
  ar : 0 ≤ d.armed ∧ d.armed ≤ 9223372036854775807

def tick (d : Dk) : Dk := if 0 < d.armed then { d with done := IntKind.i64.wrap (d.done + 1), armed := d.armed - 1, gone := decide (d.armed - 1 = 0) } else { d with done := IntKind.i64.wrap (d.done + 1) }
def put (d : Dk) (i : Nat) (x : Bs) : Dk := { d with cur := d.cur.set i x, chg := d.chg.set i true }
def wr : Dk → Nat → List Bs → Dk × Int
  | d, _, [] => (d, 0)
  | d, i, x :: l => let d' := (d.put i x).tick; bif d'.gone then (d', 5) else wr d' (i + 1) l
def chunks : Nat → Bs → List Bs
  | 0, _ => []
  | k + 1, s => s.take 64 :: chunks k (s.drop 64)
def has (d : Dk) (a k : Int) : Bool := decide (0 ≤ a ∧ 0 ≤ k ∧ a ≤ d.cur.length ∧ k ≤ d.cur.length - a)
def write (d : Dk) (a : Int) (s : Bs) : Dk × Int :=
  bif d.gone then (d, 5) else bif decide (s.length % 64 ≠ 0) || !(d.has a (s.length / 64 : Nat)) then (d, 20) else d.wr a.toNat (chunks (s.length / 64) s)
def read (d : Dk) (a k : Int) : Bs × Int :=
  bif d.gone then ([], 5) else bif !(d.has a k) then ([], 20) else (((d.cur.drop a.toNat).take k.toNat).flatten, 0)
def sync (d : Dk) : Dk × Int :=
  bif d.gone then (d, 5) else let d' := d.tick; bif d'.gone then (d', 5) else ({ d' with old := d'.cur, chg := List.replicate d'.cur.length false }, 0)
def arm (d : Dk) (a : Int) : Dk × Int :=
  bif d.gone then (d, 5) else bif decide (a < 0) then (d, 1) else ({ d with armed := a }, 0)
def rank (chg : List Bool) (i : Nat) : Nat := ((List.range i).filter (isC chg)).length
def fold1 (f : Int) : Int := if f < 0 then -(f + 1) else f
def fate (how : List Int) (k : Nat) : Int := match how[k]? with
  | some f => fold1 f
  | none => 0
def kept (f : Int) : Nat := if f % 3 = 0 then 0 else if f % 3 = 1 then 64 else (f / 3 % 65).toNat
def torn (f : Int) (x y : Bs) : Bs := x.take (kept f) ++ y.drop (kept f)
def mend (how : List Int) (d : Dk) (i : Nat) : Bs := bif isC d.chg i then torn (fate how (rank d.chg i)) (d.cur.getD i []) (d.old.getD i []) else d.cur.getD i []
def mended (how : List Int) (d : Dk) : List Bs := (List.range d.cur.length).map (mend how d)
def crash (d : Dk) (how : List Int) : Dk := { cur := mended how d, old := mended how d, chg := List.replicate d.cur.length false, armed := 0, gone := false, done := d.done }

theorem isC_rep (n i : Nat) : isC (List.replicate n false) i = false := by
  unfold isC
  simp only [List.getD_eq_getElem?_getD, List.getElem?_replicate]
  split <;> rfl
theorem isC_set (c : List Bool) (i j : Nat) (h : i < c.length) : isC (c.set i true) j = if i = j then true else isC c j := by
  unfold isC
  simp only [List.getD_eq_getElem?_getD, List.getElem?_set]
  split
  · rename_i e; subst e; simp [h]
  · rfl
theorem wf_mk0 {n : Nat} (h : n ≤ 65536) : (mk0 n).Wf where
  n1 := by simpa [mk0] using h
  lo := by simp [mk0]
  lc := by simp [mk0]
  s1 := by intro x hx; simp [mk0] at hx; rw [hx.2]; rfl
  s2 := by intro x hx; simp [mk0] at hx; rw [hx.2]; rfl
  same := fun i _ => rfl
  ar := ⟨by simp [mk0], by simp [mk0]⟩
theorem tick_cur (d : Dk) : d.tick.cur = d.cur ∧ d.tick.old = d.old ∧ d.tick.chg = d.chg := by
  unfold tick; split <;> exact ⟨rfl, rfl, rfl⟩
theorem Wf.tick {d : Dk} (h : d.Wf) : d.tick.Wf := by
  obtain ⟨h1, h2, h3, h4, h5, h6, h7⟩ := h
  unfold Dk.tick
  split
  · exact ⟨h1, h2, h3, h4, h5, h6, ⟨by simp only; omega, by simp only; omega⟩⟩
  · exact ⟨h1, h2, h3, h4, h5, h6, h7⟩
theorem Wf.put {d : Dk} (h : d.Wf) (i : Nat) {x : Bs} (hx : x.length = 64) : (d.put i x).Wf where
  n1 := by simpa [Dk.put] using h.n1
  lo := by simpa [Dk.put] using h.lo
  lc := by simpa [Dk.put] using h.lc
  s1 := by
    intro y hy
    rcases List.mem_or_eq_of_mem_set hy with hy | rfl
    · exact h.s1 y hy
    · exact hx
  s2 := h.s2
  same := by
    intro j hj
    rcases Nat.lt_or_ge i d.chg.length with hl | hl
    · simp only [Dk.put] at hj ⊢
      rw [isC_set _ _ _ hl] at hj
      split at hj
      · cases hj
      · rename_i hne
        rw [List.getElem?_set_ne hne]; exact h.same j hj
    · simp only [Dk.put] at hj ⊢
      rw [List.set_eq_of_length_le hl] at hj
      rw [List.set_eq_of_length_le (by rw [← h.lc]; exact hl)]
      exact h.same j hj
  ar := h.ar
theorem chunks_len (k : Nat) (s : Bs) : (chunks k s).length = k := by
  induction k generalizing s with
  | zero => rfl
  | succ k ih => simp [chunks, ih]
theorem chunks_64 {k : Nat} {s : Bs} (h : 64 * k ≤ s.length) : ∀ x ∈ chunks k s, x.length = 64 := by
  induction k generalizing s with
  | zero => intro x hx; cases hx
  | succ k ih =>
    intro x hx
    rcases List.mem_cons.1 hx with rfl | hx
    · rw [List.length_take]; omega
    · exact ih (by rw [List.length_drop]; omega) x hx
theorem Wf.wr {d : Dk} (h : d.Wf) (i : Nat) {l : List Bs} (hl : ∀ x ∈ l, x.length = 64) : (d.wr i l).1.Wf := by
  induction l generalizing d i with
  | nil => exact h
  | cons x l ih =>
    rw [Dk.wr]
    have h1 : (d.put i x).tick.Wf := (h.put i (hl x (by simp))).tick
    cases hg : (d.put i x).tick.gone with
    | true => simp only [hg, cond_true]; exact h1
    | false => simp only [hg, cond_false]; exact ih h1 (i + 1) (fun y hy => hl y (by simp [hy]))
theorem Wf.write {d : Dk} (h : d.Wf) (a : Int) (s : Bs) : (d.write a s).1.Wf := by
  unfold Dk.write
  cases d.gone with
  | true => exact h
  | false =>
    simp only [cond_false]
    cases hc : decide (s.length % 64 ≠ 0) || !(d.has a (s.length / 64 : Nat)) with
    | true => exact h
    | false => simp only [cond_false]; exact h.wr _ (chunks_64 (by omega))
theorem Wf.sync {d : Dk} (h : d.Wf) : d.sync.1.Wf := by
  unfold Dk.sync
  cases d.gone with
  | true => exact h
  | false =>
    simp only [cond_false]
    have h1 := h.tick
    cases hg : d.tick.gone with
    | true => exact h1
    | false =>
      simp only [cond_false]
      exact ⟨h1.n1, rfl, by simp, h1.s1, h1.s1, fun i _ => rfl, h1.ar⟩
theorem Wf.arm {d : Dk} (h : d.Wf) {a : Int} (ha : a ≤ 9223372036854775807) : (d.arm a).1.Wf := by
  unfold Dk.arm
  cases d.gone with
  | true => exact h
  | false =>
    simp only [cond_false]
    by_cases hn : a < 0
    · simp only [hn, decide_true, cond_true]; exact h
    · simp only [hn, decide_false, cond_false]
      exact ⟨h.n1, h.lo, h.lc, h.s1, h.s2, h.same, ⟨by simp only; omega, ha⟩⟩
theorem Wf.cur64 {d : Dk} (h : d.Wf) {i : Nat} (hi : i < d.cur.length) : (d.cur.getD i []).length = 64 := by
  rw [List.getD_eq_getElem?_getD, List.getElem?_eq_getElem hi]; exact h.s1 _ (List.getElem_mem hi)
theorem mended_len (how : List Int) (d : Dk) : (mended how d).length = d.cur.length := by simp [mended]
/-! ### One sector is written -/
theorem sync_calm {d : Dk} (ha : d.armed = 0) (hg : d.gone = false) : d.sync.2 = 0 ∧ d.sync.1.cur = d.cur ∧ d.sync.1.old = d.cur ∧ d.sync.1.gone = false ∧ d.sync.1.armed = 0 := by
  have ht : d.tick = { d with done := IntKind.i64.wrap (d.done + 1) } := by unfold tick; rw [if_neg (by omega)]
  unfold sync
  rw [hg]
  simp only [cond_false, ht]
  rw [show ({ d with done := IntKind.i64.wrap (d.done + 1) } : Dk).gone = false from hg]
  exact ⟨rfl, rfl, rfl, rfl, ha⟩
/-! ### Pending -/
/-! ### A crash, step by step -/
theorem getD_eq {α : Type} {l : List α} {i : Nat} {x : α} (h : i < l.length) : l[i]? = some (l.getD i x) := by
  rw [List.getD_eq_getElem?_getD, List.getElem?_eq_getElem h]; rfl
/-! ### A crash, sector by sector -/
def rmid (how : List Int) (d : Dk) (i : Nat) : Dk := { d with cur := (mended how d).take i ++ d.cur.drop i, old := (mended how d).take i ++ d.old.drop i, chg := List.replicate i false ++ d.chg.drop i }
theorem rmid_end (how : List Int) {d : Dk} (h : d.Wf) : rmid how d d.cur.length = { d.crash how with armed := d.armed, gone := d.gone } := by
  have e1 : (mended how d).take d.cur.length = mended how d := List.take_of_length_le (by rw [mended_len]; omega)
  simp only [rmid, crash, e1, List.drop_length, List.append_nil]
  rw [List.drop_eq_nil_of_le (by rw [h.lo]; omega), List.drop_eq_nil_of_le (by rw [h.lc]; omega), List.append_nil, List.append_nil]
theorem set_mid {α : Type} {a c : List α} {i : Nat} {x : α} (ha : a.length = i) (hc : c ≠ []) : (a ++ c).set i x = a ++ [x] ++ c.drop 1 := by
  rw [List.set_append_right _ _ (by omega), ha, Nat.sub_self]
  cases c with
  | nil => exact absurd rfl hc
  | cons y c => simp
theorem take_mid {α : Type} {l : List α} {i : Nat} {x : α} (h : l[i]? = some x) : l.take (i + 1) = l.take i ++ [x] := by rw [List.take_add_one, h]; rfl
def smid (d : Dk) (i : Nat) : Dk := { d with old := d.cur.take i ++ d.old.drop i, chg := List.replicate i false ++ d.chg.drop i }
theorem smid_zero (d : Dk) : smid d 0 = d := by simp [smid]
theorem smid_end {d : Dk} (h : d.Wf) : smid d d.cur.length = { d with old := d.cur, chg := List.replicate d.cur.length false } := by
  simp only [smid, List.take_length]
  rw [List.drop_eq_nil_of_le (by rw [h.lo]; omega), List.drop_eq_nil_of_le (by rw [h.lc]; omega), List.append_nil, List.append_nil]
theorem smid_step {d : Dk} (h : d.Wf) {i : Nat} (hi : i < d.cur.length) : smid d (i + 1) = { smid d i with old := (smid d i).old.set i (d.cur.getD i []), chg := (smid d i).chg.set i false } := by
  unfold smid
  simp only
  rw [take_mid (getD_eq (x := []) hi), set_mid (by rw [List.length_take]; omega) (by intro e; have e' := congrArg List.length e; have := h.lo; simp at e'; omega),
    set_mid (by simp) (by intro e; have e' := congrArg List.length e; have := h.lc; simp at e'; omega), List.drop_drop, List.drop_drop, List.replicate_succ']
theorem smid_len {d : Dk} (h : d.Wf) {i : Nat} (hi : i ≤ d.cur.length) : (smid d i).old.length = d.cur.length ∧ (smid d i).chg.length = d.cur.length := by
  have h2 := h.lo
  have h3 := h.lc
  refine ⟨?_, ?_⟩
  · show (d.cur.take i ++ d.old.drop i).length = _
    simp; omega
  · show (List.replicate i false ++ d.chg.drop i).length = _
    simp; omega

theorem rising_eq {a b : List Int} (ha : a.Pairwise (· < ·)) (hb : b.Pairwise (· < ·)) (h : ∀ x, x ∈ a ↔ x ∈ b) : a = b := by
  induction a generalizing b with
  | nil =>
    cases b with
    | nil => rfl
    | cons y b => exact absurd ((h y).2 (by simp)) (by simp)
  | cons x a ih =>
    cases b with
    | nil => exact absurd ((h x).1 (by simp)) (by simp)
    | cons y b =>
      rw [List.pairwise_cons] at ha hb
      have hxy : x = y := by
        rcases List.mem_cons.1 ((h x).1 (by simp)) with e | hx
        · exact e
        · rcases List.mem_cons.1 ((h y).2 (by simp)) with e | hy
          · exact e.symm
          · have := ha.1 y hy; have := hb.1 x hx; omega
      subst hxy
      congr 1
      refine ih ha.2 hb.2 fun z => ?_
      constructor
      · intro hz
        rcases List.mem_cons.1 ((h z).1 (by simp [hz])) with e | hz'
        · have := ha.1 z hz; omega
        · exact hz'
      · intro hz
        rcases List.mem_cons.1 ((h z).2 (by simp [hz])) with e | hz'
        · have := hb.1 z hz; omega
        · exact hz'

/-! ### All sectors in a row -/
theorem flat_len {l : List Bs} (h : ∀ x ∈ l, x.length = 64) : l.flatten.length = 64 * l.length := by
  induction l with
  | nil => rfl
  | cons x l ih => simp only [List.flatten_cons, List.length_append, List.length_cons, h x (by simp), ih (fun y hy => h y (by simp [hy]))]; omega
theorem flat_drop {l : List Bs} (h : ∀ x ∈ l, x.length = 64) (i : Nat) : l.flatten.drop (64 * i) = (l.drop i).flatten := by
  induction l generalizing i with
  | nil => simp
  | cons x l ih =>
    cases i with
    | zero => rfl
    | succ i =>
      rw [List.flatten_cons, List.drop_succ_cons, ← ih (fun y hy => h y (by simp [hy])) i, List.drop_append, h x (by simp), show 64 * (i + 1) - 64 = 64 * i by omega,
        List.drop_eq_nil_of_le (by rw [h x (by simp)]; omega), List.nil_append]
theorem flat_take {l : List Bs} (h : ∀ x ∈ l, x.length = 64) (i : Nat) : l.flatten.take (64 * i) = (l.take i).flatten := by
  induction l generalizing i with
  | nil => simp
  | cons x l ih =>
    cases i with
    | zero => rfl
    | succ i =>
      rw [List.flatten_cons, List.take_succ_cons, List.flatten_cons, ← ih (fun y hy => h y (by simp [hy])) i, List.take_append, h x (by simp), show 64 * (i + 1) - 64 = 64 * i by omega,
        List.take_of_length_le (by rw [h x (by simp)]; omega)]
theorem flat_sec {l : List Bs} (h : ∀ x ∈ l, x.length = 64) {i : Nat} (hi : i < l.length) : (l.flatten.drop (64 * i)).take 64 = l.getD i [] := by
  rw [flat_drop h, List.getD_eq_getElem?_getD, List.getElem?_eq_getElem hi, List.drop_eq_getElem_cons hi, List.flatten_cons, Option.getD_some]
  rw [List.take_append_of_le_length (by rw [h _ (List.getElem_mem hi)]; omega), List.take_of_length_le (by rw [h _ (List.getElem_mem hi)]; omega)]
theorem flat_lay {l : List Bs} (h : ∀ x ∈ l, x.length = 64) {i j : Nat} (hi : i < l.length) (hj : j ≤ 64) {y : Bs} (hy : y.length = 64 - j) :
    l.flatten.take (64 * i + j) ++ y ++ l.flatten.drop (64 * i + 64) = (l.set i ((l.getD i []).take j ++ y)).flatten := by
  induction l generalizing i with
  | nil => simp at hi
  | cons x l ih =>
    have hx := h x (by simp)
    cases i with
    | zero =>
      simp only [List.flatten_cons, List.set_cons_zero, List.getD_cons_zero, Nat.mul_zero, Nat.zero_add]
      rw [List.take_append_of_le_length (by omega), List.drop_append, hx, Nat.sub_self, List.drop_eq_nil_of_le (by omega), List.nil_append, List.drop_zero]
    | succ i =>
      simp only [List.flatten_cons, List.set_cons_succ, List.getD_cons_succ]
      rw [← ih (fun y hy => h y (by simp [hy])) (by simpa using hi), List.take_append, List.drop_append, hx]
      rw [List.take_of_length_le (show x.length ≤ 64 * (i + 1) + j by omega), List.drop_eq_nil_of_le (show x.length ≤ 64 * (i + 1) + 64 by omega), List.nil_append,
        show 64 * (i + 1) + j - 64 = 64 * i + j by omega, show 64 * (i + 1) + 64 - 64 = 64 * i + 64 by omega]
      simp only [List.append_assoc]

end Dk
end Go.Al

namespace Go.Proofs.YthbngnlmgplijaaGreatDoor
open Go.Al Go.Proofs
set_option maxRecDepth 100000
set_option linter.unusedVariables false
set_option linter.unusedSimpArgs false
def T192 (k : KV) (n0 width1 : Value) (w : World) : Prop :=
 Pu (binV (.int .i64) .lss width1 (.int .i64 1)) fun t1 =>
 Gd (isB false t1) (fun kk => kk width1 w) w fun t2 w3 =>
 Gd (isB false t1) (fun kk => Pu (binV (.int .i64) .gtr t2 (.int .i64 8)) fun vv => kk vv w3) w3 fun t4 w5 =>
 Pu (pickV t1 (.bool true) t4) fun t6 =>
 Gd (isB false t6) (fun kk => kk n0 w5) w5 fun t7 w8 =>
 Gd (isB false t6) (fun kk => Pu (binV (.int .i64) .lss t7 (.int .i64 0)) fun vv => kk vv w8) w8 fun t9 w10 =>
 Pu (pickV t6 (.bool true) t9) fun t11 =>
 IfB t11
 (k (.string (.mk #[])) w10)
 (RunS Tryz.prog (Instr.makeSlice 123 width1 width1) w10 fun t12 w13 =>
 Pu (binV (.int .i64) .sub width1 (.int .i64 1)) fun t14 =>
 ∃ (I15 : List Value → World → Prop) (m16 : List Value → World → Nat), I15 [n0, t14] w13 ∧
 ∀ (g33 : Fr) (w32 : World), ∀ n18 : Value, ∀ i19 : Value, I15 [n18, i19] w32 →
 (Pu (binV (.int .i64) .geq i19 (.int .i64 0)) fun t34 =>
 IfB t34
 (Pu (binV (.int .i64) .rem n18 (.int .i64 256)) fun t35 =>
 Pu (cvI IntKind.u8 t35) fun t36 =>
 Pu (ixV 1 t12 i19) fun t37 =>
 St 1 w32 t37 t36 fun u38 w39 =>
 Pu (binV (.int .i64) .quo n18 (.int .i64 256)) fun t40 =>
 Pu (binV (.int .i64) .sub i19 (.int .i64 1)) fun t41 =>
 I15 [t40, t41] w39 ∧ m16 [t40, t41] w39 < m16 [n18, i19] w32)
 (RunS Tryz.prog (convert 123 9 t12) w32 fun t42 w43 =>
 k t42 w43)))
theorem e192 (k : KV) (n0 width1 : Value) (w : World) : K KD Tryz.prog 35 (fun j => bif Nat.beq j 5 then [0, 6] else []) (fun j =>  none) (Tryz.f192.body.getD .skip) (retQ Tryz.prog Tryz.f192 k) (argF [n0, width1]) w = T192 k n0 width1 w := by kernel_rfl
theorem c192 {k : KV} {n0 width1 : Value} {w : World} (h : T192 k n0 width1 w) : Cl Tryz.prog 192 [n0, width1] w k :=
  Cl_of_K KD_sound mixed Tryz.func192 (by kernel_rfl) (by kernel_rfl) ((e192 k n0 width1 w).symm ▸ h)

def T83 (k : KV) (data0 : Value) (w : World) : Prop :=
 ∃ (I1 : List Value → World → Prop) (m2 : List Value → World → Nat), I1 [(.int .i64 0), (.int .i64 0)] w ∧
 ∀ (g21 : Fr) (w20 : World), ∀ n4 : Value, ∀ i5 : Value, I1 [n4, i5] w20 →
 (Pu (lenS data0) fun t22 =>
 Pu (binV (.int .i64) .lss i5 t22) fun t23 =>
 IfB t23
 (Pu (binV (.int .i64) .rem n4 (.int .i64 36028797018963968)) fun t24 =>
 Pu (binV (.int .i64) .mul t24 (.int .i64 256)) fun t25 =>
 Pu (ixS data0 i5) fun t26 =>
 Pu (cvI IntKind.i64 t26) fun t27 =>
 Pu (binV (.int .i64) .add t25 t27) fun t28 =>
 Pu (binV (.int .i64) .add i5 (.int .i64 1)) fun t29 =>
 I1 [t28, t29] w20 ∧ m2 [t28, t29] w20 < m2 [n4, i5] w20)
 (k n4 w20))
theorem e83 (k : KV) (data0 : Value) (w : World) : K KD Tryz.prog 20 (fun j => bif Nat.beq j 3 then [3, 4] else []) (fun j =>  none) (Tryz.f83.body.getD .skip) (retQ Tryz.prog Tryz.f83 k) (argF [data0]) w = T83 k data0 w := by kernel_rfl
theorem c83 {k : KV} {data0 : Value} {w : World} (h : T83 k data0 w) : Cl Tryz.prog 83 [data0] w k :=
  Cl_of_K KD_sound mixed Tryz.func83 (by kernel_rfl) (by kernel_rfl) ((e83 k data0 w).symm ▸ h)

def T84 (k : KV) (data0 : Value) (w : World) : Prop :=
 ∃ (I1 : List Value → World → Prop) (m2 : List Value → World → Nat), I1 [(Value.int IntKind.u32 4294967295), (.int .i64 0)] w ∧
 ∀ (g33 : Fr) (w32 : World), ∀ c4 : Value, ∀ i5 : Value, I1 [c4, i5] w32 →
 (Pu (lenS data0) fun t34 =>
 Pu (binV (.int .i64) .lss i5 t34) fun t35 =>
 IfB t35
 (Pu (ixS data0 i5) fun t36 =>
 Pu (cvI IntKind.u32 t36) fun t37 =>
 Pu (binV (TypeDesc.int IntKind.u32) .xor c4 t37) fun t38 =>
 ∃ (I39 : List Value → World → Prop) (m40 : List Value → World → Nat), I39 [t38, (.int .i64 0)] w32 ∧
 ∀ (g58 : Fr) (w57 : World), ∀ c42 : Value, ∀ kv43 : Value, I39 [c42, kv43] w57 →
 (Pu (binV (.int .i64) .lss kv43 (.int .i64 8)) fun t59 =>
 IfB t59
 (Jn (fun vs72 w71 => ∀ g73 : Fr, ∃ c61 : Value, vs72 = [c61] ∧
 (Pu (binV (.int .i64) .add kv43 (.int .i64 1)) fun t74 =>
 I39 [c61, t74] w71 ∧ m40 [c61, t74] w71 < m40 [c42, kv43] w57))
 (fun jj60 =>
 Pu (binV (TypeDesc.int IntKind.u32) .rem c42 (Value.int IntKind.u32 2)) fun t75 =>
 Pu (binV (TypeDesc.int IntKind.u32) .eql t75 (Value.int IntKind.u32 1)) fun t76 =>
 Pu (binV (TypeDesc.int IntKind.u32) .quo c42 (Value.int IntKind.u32 2)) fun t77 =>
 IfB t76
 (Pu (binV (TypeDesc.int IntKind.u32) .xor t77 (Value.int IntKind.u32 3988292384)) fun t78 =>
 jj60 [t78] w57)
 (jj60 [t77] w57)))
 (Pu (binV (.int .i64) .add i5 (.int .i64 1)) fun t79 =>
 I1 [c42, t79] w57 ∧ m2 [c42, t79] w57 < m2 [c4, i5] w32)))
 (Pu (binV (TypeDesc.int IntKind.u32) .xor c4 (Value.int IntKind.u32 4294967295)) fun t80 =>
 k t80 w32))
theorem e84 (k : KV) (data0 : Value) (w : World) : K KD Tryz.prog 33 (fun j => bif Nat.beq j 7 then [3, 5] else bif Nat.beq j 3 then [3, 4] else []) (fun j => bif Nat.beq j 8 then some [3] else none) (Tryz.f84.body.getD .skip) (retQ Tryz.prog Tryz.f84 k) (argF [data0]) w = T84 k data0 w := by kernel_rfl
theorem c84 {k : KV} {data0 : Value} {w : World} (h : T84 k data0 w) : Cl Tryz.prog 84 [data0] w k :=
  Cl_of_K KD_sound mixed Tryz.func84 (by kernel_rfl) (by kernel_rfl) ((e84 k data0 w).symm ▸ h)

def T127 (k : KV) (data0 : Value) (w : World) : Prop :=
 New #[(.int .i64 0), (.int .i64 0), (.int .i64 0), (.int .i64 0), (.string (.mk #[])), (.slice none 0 0)] 61 w fun t1 w2 =>
 Pu (lenS data0) fun t3 =>
 Pu (binV (.int .i64) .neq t3 (.int .i64 512)) fun t4 =>
 IfB t4
 (RunS Tryz.prog (Instr.build 61 #[]) w2 fun t5 w6 =>
 St 6 w6 t1 t5 fun u7 w8 =>
 RetO (resL Tryz.prog (fun j => bif Nat.beq j 2 then t1 else bif Nat.beq j 3 then (.int .i64 31) else undef) w8 [(ResultVar.cell 2 61), (ResultVar.tmp 3)]) w8 k)
 (Pu (slS data0 none (some (.int .i64 4))) fun t9 =>
 Pu (slS data0 (some (.int .i64 4)) none) fun t10 =>
 Cl Tryz.prog 83 [t9] (World.drew w2) fun t11 w12 =>
 Cl Tryz.prog 84 [t10] w12 fun t13 w14 =>
 Pu (cvI IntKind.i64 t13) fun t15 =>
 Pu (binV (.int .i64) .neq t11 t15) fun t16 =>
 IfB t16
 (RunS Tryz.prog (Instr.build 61 #[]) w14 fun t17 w18 =>
 St 6 w18 t1 t17 fun u19 w20 =>
 RetO (resL Tryz.prog (fun j => bif Nat.beq j 2 then t1 else bif Nat.beq j 3 then (.int .i64 30) else undef) w20 [(ResultVar.cell 2 61), (ResultVar.tmp 3)]) w20 k)
 (Jn (fun vs37 w36 => ∀ g38 : Fr, ∃ p22 : Value, vs37 = [p22] ∧
 (Pu (ixS data0 (.int .i64 18)) fun t39 =>
 Pu (cvI IntKind.i64 t39) fun t40 =>
 Pu (ixS data0 (.int .i64 19)) fun t41 =>
 Pu (cvI IntKind.i64 t41) fun t42 =>
 Pu (binV (.int .i64) .add (.int .i64 20) t42) fun t43 =>
 Pu (slS data0 (some (.int .i64 20)) (some t43)) fun t44 =>
 Pu (faV 4 p22) fun t45 =>
 St 1 w36 t45 t44 fun u46 w47 =>
 ∃ (I48 : List Value → World → Prop) (m49 : List Value → World → Nat), I48 [t43, (.int .i64 0)] w47 ∧
 ∀ (g94 : Fr) (w93 : World), ∀ atv52 : Value, ∀ i53 : Value, I48 [atv52, i53] w93 →
 (Pu (binV (.int .i64) .lss i53 t40) fun t95 =>
 IfB t95
 (Pu (binV (.int .i64) .add atv52 (.int .i64 2)) fun t96 =>
 Pu (binV (.int .i64) .gtr t96 (.int .i64 512)) fun t97 =>
 IfB t97
 (RunS Tryz.prog (Instr.build 61 #[]) w93 fun t98 w99 =>
 St 6 w99 t1 t98 fun u100 w101 =>
 RetO (resL Tryz.prog (fun j => bif Nat.beq j 2 then t1 else bif Nat.beq j 3 then (.int .i64 31) else undef) w101 [(ResultVar.cell 2 61), (ResultVar.tmp 3)]) w101 k)
 (Pu (binV (.int .i64) .add atv52 (.int .i64 2)) fun t102 =>
 Pu (slS data0 (some atv52) (some t102)) fun t103 =>
 Cl Tryz.prog 83 [t103] w93 fun t104 w105 =>
 Pu (binV (.int .i64) .add atv52 (.int .i64 2)) fun t106 =>
 Pu (binV (.int .i64) .add t106 t104) fun t107 =>
 Pu (binV (.int .i64) .gtr t107 (.int .i64 512)) fun t108 =>
 IfB t108
 (RunS Tryz.prog (Instr.build 61 #[]) w105 fun t109 w110 =>
 St 6 w110 t1 t109 fun u111 w112 =>
 RetO (resL Tryz.prog (fun j => bif Nat.beq j 2 then t1 else bif Nat.beq j 3 then (.int .i64 31) else undef) w112 [(ResultVar.cell 2 61), (ResultVar.tmp 3)]) w112 k)
 (∃ C113 : World → Prop, C113 (World.drew w105) ∧
 (Pu (faV 5 p22) fun t114 =>
 ∃ t115, (∀ w116, C113 w116 → Ld w116 t114 fun t117 w118 =>
 t117 = t115 ∧ w118 = w116) ∧
 (Pu (binV (.int .i64) .add atv52 (.int .i64 2)) fun t119 =>
 Pu (binV (.int .i64) .add atv52 (.int .i64 2)) fun t120 =>
 Pu (binV (.int .i64) .add t120 t104) fun t121 =>
 Pu (slS data0 (some t119) (some t121)) fun t122 =>
 RunS Tryz.prog (Instr.buildSlice 59 1 #[(0, t122)]) (World.drew w105) fun t123 w124 =>
 C113 w124 ∧
 (RunS Tryz.prog (Builtin.append_ #[59, 59] 59 #[t115, t123]) w124 fun t125 w126 =>
 Pu (faV 5 p22) fun t127 =>
 St 1 w126 t127 t125 fun u128 w129 =>
 Pu (binV (.int .i64) .add atv52 (.int .i64 2)) fun t130 =>
 Pu (binV (.int .i64) .add t130 t104) fun t131 =>
 Pu (binV (.int .i64) .add i53 (.int .i64 1)) fun t132 =>
 I48 [t131, t132] w129 ∧ m49 [t131, t132] w129 < m49 [atv52, i53] w93))))))
 (LdN 6 w93 p22 fun t133 w134 =>
 Cl Tryz.prog 132 [t133] w134 fun t135 w136 =>
 Pu (extV t135 0) fun t137 =>
 Pu (extV t135 1) fun t138 =>
 Pu (binV (.int .i64) .neq t138 (.int .i64 0)) fun t139 =>
 Gd (isB false t139) (fun kk => kk t137 w136) w136 fun t140 w141 =>
 Gd (isB false t139) (fun kk => kk data0 w141) w141 fun t142 w143 =>
 Gd (isB false t139) (fun kk => Pu (binV TypeDesc.string .neq t140 t142) fun vv => kk vv w143) w143 fun t144 w145 =>
 Pu (pickV t139 (.bool true) t144) fun t146 =>
 IfB t146
 (RunS Tryz.prog (Instr.build 61 #[]) w145 fun t147 w148 =>
 St 6 w148 t1 t147 fun u149 w150 =>
 RetO (resL Tryz.prog (fun j => bif Nat.beq j 2 then t1 else bif Nat.beq j 3 then (.int .i64 31) else undef) w150 [(ResultVar.cell 2 61), (ResultVar.tmp 3)]) w150 k)
 (LdN 6 w145 p22 fun t151 w152 =>
 St 6 w152 t1 t151 fun u153 w154 =>
 RetO (resL Tryz.prog (fun j => bif Nat.beq j 2 then t1 else bif Nat.beq j 3 then (.int .i64 0) else undef) w154 [(ResultVar.cell 2 61), (ResultVar.tmp 3)]) w154 k)))))
 (fun jj21 =>
 ∃ C155 : World → Prop, C155 (World.drew w14) ∧
 (Pu (slS data0 (some (.int .i64 4)) (some (.int .i64 12))) fun t156 =>
 Pu (ixS data0 (.int .i64 12)) fun t157 =>
 Pu (cvI IntKind.i64 t157) fun t158 =>
 Pu (ixS data0 (.int .i64 13)) fun t159 =>
 Pu (cvI IntKind.i64 t159) fun t160 =>
 Pu (slS data0 (some (.int .i64 14)) (some (.int .i64 18))) fun t161 =>
 (Cl Tryz.prog 83 [t156] (World.drew w14) fun t162 w163 =>
 C155 w163 ∧
 ((Cl Tryz.prog 83 [t161] w163 fun t164 w165 =>
 C155 w165 ∧
 (∃ t166, (∀ w167, C155 w167 → RunS Tryz.prog (Instr.build 61 #[(0, t162), (1, t158), (2, t160), (3, t164)]) w167 fun t168 w169 =>
 t168 = t166 ∧ w169 = w167) ∧
 (New #[(.int .i64 0), (.int .i64 0), (.int .i64 0), (.int .i64 0), (.string (.mk #[])), (.slice none 0 0)] 61 w165 fun p170 w171 =>
 C155 w171 ∧
 (St 6 w171 p170 t166 fun u172 w173 =>
 jj21 [p170] w173)))) ∧
 (New #[(.int .i64 0), (.int .i64 0), (.int .i64 0), (.int .i64 0), (.string (.mk #[])), (.slice none 0 0)] 61 w163 fun p174 w175 =>
 C155 w175 ∧
 (Cl Tryz.prog 83 [t161] w175 fun t176 w177 =>
 C155 w177 ∧
 (RunS Tryz.prog (Instr.build 61 #[(0, t162), (1, t158), (2, t160), (3, t176)]) w177 fun t178 w179 =>
 w179 = w177 ∧
 St 6 w177 p174 t178 fun u180 w181 =>
 jj21 [p174] w181))) ∧
 True)) ∧
 (New #[(.int .i64 0), (.int .i64 0), (.int .i64 0), (.int .i64 0), (.string (.mk #[])), (.slice none 0 0)] 61 (World.drew w14) fun p182 w183 =>
 C155 w183 ∧
 (Cl Tryz.prog 83 [t156] w183 fun t184 w185 =>
 C155 w185 ∧
 (Cl Tryz.prog 83 [t161] w185 fun t186 w187 =>
 C155 w187 ∧
 (RunS Tryz.prog (Instr.build 61 #[(0, t184), (1, t158), (2, t160), (3, t186)]) w187 fun t188 w189 =>
 w189 = w187 ∧
 St 6 w187 p182 t188 fun u190 w191 =>
 jj21 [p182] w191)))) ∧
 True))))
theorem e127 (k : KV) (data0 : Value) (w : World) : K KD Tryz.prog 100 (fun j => bif Nat.beq j 10 then [6, 7] else []) (fun j => bif Nat.beq j 6 then some [4] else none) (Tryz.f127.body.getD .skip) (retQ Tryz.prog Tryz.f127 k) (argF [data0]) w = T127 k data0 w := by kernel_rfl
theorem c127 {k : KV} {data0 : Value} {w : World} (h : T127 k data0 w) : Cl Tryz.prog 127 [data0] w k :=
  Cl_of_K KD_sound mixed Tryz.func127 (by kernel_rfl) (by kernel_rfl) ((e127 k data0 w).symm ▸ h)

def T132 (k : KV) (p0 : Value) (w : World) : Prop :=
 New (Value.cells p0) 61 w fun p1 w2 =>
 Pu (faV 0 p1) fun t3 =>
 Ld w2 t3 fun t4 w5 =>
 Pu (binV (.int .i64) .lss t4 (.int .i64 0)) fun t6 =>
 Gd (isB false t6) (fun kk => Pu (faV 1 p1) fun vv => kk vv w5) w5 fun t7 w8 =>
 Gd (isB false t6) (fun kk => Ld w8 t7 kk) w8 fun t9 w10 =>
 Gd (isB false t6) (fun kk => Pu (binV (.int .i64) .lss t9 (.int .i64 1)) fun vv => kk vv w10) w10 fun t11 w12 =>
 Pu (pickV t6 (.bool true) t11) fun t13 =>
 Gd (isB false t13) (fun kk => Pu (faV 1 p1) fun vv => kk vv w12) w12 fun t14 w15 =>
 Gd (isB false t13) (fun kk => Ld w15 t14 kk) w15 fun t16 w17 =>
 Gd (isB false t13) (fun kk => Pu (binV (.int .i64) .gtr t16 (.int .i64 3)) fun vv => kk vv w17) w17 fun t18 w19 =>
 Pu (pickV t13 (.bool true) t18) fun t20 =>
 Gd (isB false t20) (fun kk => Pu (faV 2 p1) fun vv => kk vv w19) w19 fun t21 w22 =>
 Gd (isB false t20) (fun kk => Ld w22 t21 kk) w22 fun t23 w24 =>
 Gd (isB false t20) (fun kk => Pu (binV (.int .i64) .lss t23 (.int .i64 0)) fun vv => kk vv w24) w24 fun t25 w26 =>
 Pu (pickV t20 (.bool true) t25) fun t27 =>
 Gd (isB false t27) (fun kk => Pu (faV 2 p1) fun vv => kk vv w26) w26 fun t28 w29 =>
 Gd (isB false t27) (fun kk => Ld w29 t28 kk) w29 fun t30 w31 =>
 Gd (isB false t27) (fun kk => Pu (binV (.int .i64) .gtr t30 (.int .i64 255)) fun vv => kk vv w31) w31 fun t32 w33 =>
 Pu (pickV t27 (.bool true) t32) fun t34 =>
 Gd (isB false t34) (fun kk => Pu (faV 3 p1) fun vv => kk vv w33) w33 fun t35 w36 =>
 Gd (isB false t34) (fun kk => Ld w36 t35 kk) w36 fun t37 w38 =>
 Gd (isB false t34) (fun kk => Pu (binV (.int .i64) .lss t37 (.int .i64 0)) fun vv => kk vv w38) w38 fun t39 w40 =>
 Pu (pickV t34 (.bool true) t39) fun t41 =>
 Gd (isB false t41) (fun kk => Pu (faV 3 p1) fun vv => kk vv w40) w40 fun t42 w43 =>
 Gd (isB false t41) (fun kk => Ld w43 t42 kk) w43 fun t44 w45 =>
 Gd (isB false t41) (fun kk => Pu (binV (.int .i64) .gtr t44 (.int .i64 4294967295)) fun vv => kk vv w45) w45 fun t46 w47 =>
 Pu (pickV t41 (.bool true) t46) fun t48 =>
 IfB t48
 (k (.tuple #[(.string (.mk #[])), (.int .i64 4)]) w47)
 (Pu (faV 4 p1) fun t49 =>
 Ld w47 t49 fun t50 w51 =>
 Pu (lenS t50) fun t52 =>
 Pu (binV (.int .i64) .gtr t52 (.int .i64 255)) fun t53 =>
 Gd (isB false t53) (fun kk => Pu (faV 5 p1) fun vv => kk vv w51) w51 fun t54 w55 =>
 Gd (isB false t53) (fun kk => Ld w55 t54 kk) w55 fun t56 w57 =>
 Gd (isB false t53) (fun kk => Pu (lenV t56) fun vv => kk vv w57) w57 fun t58 w59 =>
 Gd (isB false t53) (fun kk => Pu (binV (.int .i64) .gtr t58 (.int .i64 255)) fun vv => kk vv w59) w59 fun t60 w61 =>
 Pu (pickV t53 (.bool true) t60) fun t62 =>
 Gd (isB false t62) (fun kk => LdN 6 w61 p1 kk) w61 fun t63 w64 =>
 Gd (isB false t62) (fun kk => Cl Tryz.prog 193 [t63] w64 kk) w64 fun t65 w66 =>
 Gd (isB false t62) (fun kk => Pu (binV (.int .i64) .gtr t65 (.int .i64 512)) fun vv => kk vv w66) w66 fun t67 w68 =>
 Pu (pickV t62 (.bool true) t67) fun t69 =>
 IfB t69
 (k (.tuple #[(.string (.mk #[])), (.int .i64 3)]) w68)
 (∃ C70 : World → Prop, C70 (World.drew w68) ∧
 (Pu (faV 0 p1) fun t71 =>
 Ld (World.drew w68) t71 fun t72 w73 =>
 w73 = (World.drew w68) ∧
 Pu (faV 1 p1) fun t74 =>
 ∃ t75, (∀ w76, C70 w76 → Ld w76 t74 fun t77 w78 =>
 t77 = t75 ∧ w78 = w76) ∧
 (Pu (faV 2 p1) fun t79 =>
 ∃ t80, (∀ w81, C70 w81 → Ld w81 t79 fun t82 w83 =>
 t82 = t80 ∧ w83 = w81) ∧
 (Pu (faV 3 p1) fun t84 =>
 ∃ t85, (∀ w86, C70 w86 → Ld w86 t84 fun t87 w88 =>
 t87 = t85 ∧ w88 = w86) ∧
 (Pu (faV 5 p1) fun t89 =>
 ∃ t90, (∀ w91, C70 w91 → Ld w91 t89 fun t92 w93 =>
 t92 = t90 ∧ w93 = w91) ∧
 (Pu (lenV t90) fun t94 =>
 Pu (faV 4 p1) fun t95 =>
 ∃ t96, (∀ w97, C70 w97 → Ld w97 t95 fun t98 w99 =>
 t98 = t96 ∧ w99 = w97) ∧
 (Pu (lenS t96) fun t100 =>
 Pu (faV 4 p1) fun t101 =>
 ∃ t102, (∀ w103, C70 w103 → Ld w103 t101 fun t104 w105 =>
 t104 = t102 ∧ w105 = w103) ∧
 (Cl Tryz.prog 192 [t72, (.int .i64 8)] (World.drew w68) fun t106 w107 =>
 C70 w107 ∧
 (Cl Tryz.prog 192 [t75, (.int .i64 1)] w107 fun t108 w109 =>
 C70 w109 ∧
 (Pu (binV TypeDesc.string .add t106 t108) fun t110 =>
 Cl Tryz.prog 192 [t80, (.int .i64 1)] w109 fun t111 w112 =>
 C70 w112 ∧
 (Pu (binV TypeDesc.string .add t110 t111) fun t113 =>
 Cl Tryz.prog 192 [t85, (.int .i64 4)] w112 fun t114 w115 =>
 C70 w115 ∧
 (Pu (binV TypeDesc.string .add t113 t114) fun t116 =>
 Cl Tryz.prog 192 [t94, (.int .i64 1)] w115 fun t117 w118 =>
 C70 w118 ∧
 (Pu (binV TypeDesc.string .add t116 t117) fun t119 =>
 Cl Tryz.prog 192 [t100, (.int .i64 1)] w118 fun t120 w121 =>
 C70 w121 ∧
 (Pu (binV TypeDesc.string .add t119 t120) fun t122 =>
 Pu (binV TypeDesc.string .add t122 t102) fun t123 =>
 ∃ (I124 : List Value → World → Prop) (m125 : List Value → World → Nat), I124 [t123, (.int .i64 0)] w121 ∧
 ∀ (g152 : Fr) (w151 : World), ∀ s127 : Value, ∀ i128 : Value, I124 [s127, i128] w151 →
 (Pu (faV 5 p1) fun t153 =>
 Ld w151 t153 fun t154 w155 =>
 Pu (lenV t154) fun t156 =>
 Pu (binV (.int .i64) .lss i128 t156) fun t157 =>
 IfB t157
 (∃ C158 : World → Prop, C158 (World.drew w155) ∧
 (Pu (faV 5 p1) fun t159 =>
 Ld (World.drew w155) t159 fun t160 w161 =>
 w161 = (World.drew w155) ∧
 Pu (ixV 1 t160 i128) fun t162 =>
 Ld (World.drew w155) t162 fun t163 w164 =>
 w164 = (World.drew w155) ∧
 Pu (lenS t163) fun t165 =>
 Pu (faV 5 p1) fun t166 =>
 ∃ t167, (∀ w168, C158 w168 → Ld w168 t166 fun t169 w170 =>
 t169 = t167 ∧ w170 = w168) ∧
 (Pu (ixV 1 t167 i128) fun t171 =>
 ∃ t172, (∀ w173, C158 w173 → Ld w173 t171 fun t174 w175 =>
 t174 = t172 ∧ w175 = w173) ∧
 (Cl Tryz.prog 192 [t165, (.int .i64 2)] (World.drew w155) fun t176 w177 =>
 C158 w177 ∧
 (Pu (binV TypeDesc.string .add s127 t176) fun t178 =>
 Pu (binV TypeDesc.string .add t178 t172) fun t179 =>
 Pu (binV (.int .i64) .add i128 (.int .i64 1)) fun t180 =>
 I124 [t179, t180] w177 ∧ m125 [t179, t180] w177 < m125 [s127, i128] w151)))))
 (Pu (lenS s127) fun t181 =>
 Pu (binV (.int .i64) .sub (.int .i64 508) t181) fun t182 =>
 RunS Tryz.prog (Instr.makeSlice 123 t182 t182) w155 fun t183 w184 =>
 RunS Tryz.prog (convert 123 9 t183) w184 fun t185 w186 =>
 Pu (binV TypeDesc.string .add s127 t185) fun t187 =>
 Cl Tryz.prog 84 [t187] w186 fun t188 w189 =>
 Pu (cvI IntKind.i64 t188) fun t190 =>
 Cl Tryz.prog 192 [t190, (.int .i64 4)] w189 fun t191 w192 =>
 Pu (binV TypeDesc.string .add t191 t187) fun t193 =>
 k (.tuple #[t193, (.int .i64 0)]) w192)))))))))))))))))
theorem e132 (k : KV) (p0 : Value) (w : World) : K KD Tryz.prog 117 (fun j => bif Nat.beq j 7 then [4, 5] else []) (fun j =>  none) (Tryz.f132.body.getD .skip) (retQ Tryz.prog Tryz.f132 k) (argF [p0]) w = T132 k p0 w := by kernel_rfl
theorem c132 {k : KV} {p0 : Value} {w : World} (h : T132 k p0 w) : Cl Tryz.prog 132 [p0] w k :=
  Cl_of_K KD_sound mixed Tryz.func132 (by kernel_rfl) (by kernel_rfl) ((e132 k p0 w).symm ▸ h)

def T193 (k : KV) (p0 : Value) (w : World) : Prop :=
 New (Value.cells p0) 61 w fun p1 w2 =>
 Pu (faV 4 p1) fun t3 =>
 Ld w2 t3 fun t4 w5 =>
 Pu (lenS t4) fun t6 =>
 Pu (binV (.int .i64) .add (.int .i64 20) t6) fun t7 =>
 ∃ (I8 : List Value → World → Prop) (m9 : List Value → World → Nat), I8 [t7, (.int .i64 0)] w5 ∧
 ∀ (g30 : Fr) (w29 : World), ∀ n11 : Value, ∀ i12 : Value, I8 [n11, i12] w29 →
 (Pu (faV 5 p1) fun t31 =>
 Ld w29 t31 fun t32 w33 =>
 Pu (lenV t32) fun t34 =>
 Pu (binV (.int .i64) .lss i12 t34) fun t35 =>
 IfB t35
 (Pu (binV (.int .i64) .add n11 (.int .i64 2)) fun t36 =>
 Pu (faV 5 p1) fun t37 =>
 Ld w33 t37 fun t38 w39 =>
 Pu (ixV 1 t38 i12) fun t40 =>
 Ld w39 t40 fun t41 w42 =>
 Pu (lenS t41) fun t43 =>
 Pu (binV (.int .i64) .add t36 t43) fun t44 =>
 Pu (binV (.int .i64) .add i12 (.int .i64 1)) fun t45 =>
 I8 [t44, t45] w42 ∧ m9 [t44, t45] w42 < m9 [n11, i12] w29)
 (k n11 w33))
theorem e193 (k : KV) (p0 : Value) (w : World) : K KD Tryz.prog 26 (fun j => bif Nat.beq j 3 then [3, 4] else []) (fun j =>  none) (Tryz.f193.body.getD .skip) (retQ Tryz.prog Tryz.f193 k) (argF [p0]) w = T193 k p0 w := by kernel_rfl
theorem c193 {k : KV} {p0 : Value} {w : World} (h : T193 k p0 w) : Cl Tryz.prog 193 [p0] w k :=
  Cl_of_K KD_sound mixed Tryz.func193 (by kernel_rfl) (by kernel_rfl) ((e193 k p0 w).symm ▸ h)

end Go.Proofs.YthbngnlmgplijaaGreatDoor

namespace Go.Al
set_option linter.unusedVariables false
set_option linter.unusedSimpArgs false
set_option linter.unusedSectionVars false

/-! ### The sum -/
def crcS (c : Nat) : Nat := (c / 2) ^^^ (if c % 2 = 1 then 3988292384 else 0)
def crcT : Nat → Nat → Nat
  | 0, c => c
  | k + 1, c => crcT k (crcS c)
def crcB (c : Nat) (b : UInt8) : Nat := crcT 8 (c ^^^ b.toNat)
def crcF (c : Nat) (l : Bs) : Nat := l.foldl crcB c
def crc (l : Bs) : Nat := crcF 4294967295 l ^^^ 4294967295
theorem crcS_lt {c : Nat} (h : c < 2 ^ 32) : crcS c < 2 ^ 32 := by
  unfold crcS
  refine Nat.xor_lt_two_pow (by omega) ?_
  split <;> omega
theorem crcT_lt : ∀ (k : Nat) {c : Nat}, c < 2 ^ 32 → crcT k c < 2 ^ 32
  | 0, _, h => h
  | k + 1, _, h => crcT_lt k (crcS_lt h)
theorem xor_byte {c : Nat} (h : c < 2 ^ 32) (b : UInt8) : c ^^^ b.toNat < 2 ^ 32 := Nat.xor_lt_two_pow h (by have := b.toNat_lt; omega)
theorem crcB_lt {c : Nat} (h : c < 2 ^ 32) (b : UInt8) : crcB c b < 2 ^ 32 := crcT_lt 8 (xor_byte h b)
theorem crcF_lt : ∀ (l : Bs) {c : Nat}, c < 2 ^ 32 → crcF c l < 2 ^ 32
  | [], _, h => h
  | b :: l, _, h => crcF_lt l (crcB_lt h b)
theorem crc_lt (l : Bs) : crc l < 2 ^ 32 := Nat.xor_lt_two_pow (crcF_lt l (by omega)) (by omega)
theorem crcS_xor (a b : Nat) : crcS (a ^^^ b) = crcS a ^^^ crcS b := by
  unfold crcS
  have h1 : (a ^^^ b) / 2 = a / 2 ^^^ b / 2 := by
    have := Nat.shiftRight_xor_distrib (a := a) (b := b) (i := 1)
    simpa [Nat.shiftRight_eq_div_pow] using this
  have h2 : (a ^^^ b) % 2 = (a % 2 ^^^ b % 2) := by
    have := Nat.xor_mod_two_pow (a := a) (b := b) (n := 1)
    simpa using this
  rw [h1, h2]
  have ha : a % 2 = 0 ∨ a % 2 = 1 := by omega
  have hb : b % 2 = 0 ∨ b % 2 = 1 := by omega
  rcases ha with ha | ha <;> rcases hb with hb | hb <;> rw [ha, hb] <;> simp
  · rw [Nat.xor_assoc]
  · rw [Nat.xor_assoc, Nat.xor_assoc, Nat.xor_comm (b / 2)]
  · rw [Nat.xor_assoc, Nat.xor_comm 3988292384, Nat.xor_assoc, Nat.xor_self, Nat.xor_zero]
theorem crcT_xor : ∀ (k a b : Nat), crcT k (a ^^^ b) = crcT k a ^^^ crcT k b
  | 0, _, _ => rfl
  | k + 1, a, b => by rw [crcT, crcS_xor, crcT_xor k]; rfl
theorem crcT_shift : ∀ (k x : Nat), crcT k (x * 2 ^ k) = x
  | 0, x => by simp [crcT]
  | k + 1, x => by
    rw [crcT]
    have : crcS (x * 2 ^ (k + 1)) = x * 2 ^ k := by
      unfold crcS
      rw [Nat.pow_succ, ← Nat.mul_assoc, Nat.mul_div_cancel _ (by omega), if_neg (by omega), Nat.xor_zero]
    rw [this]; exact crcT_shift k x
theorem split_byte (c : Nat) : c = (c / 256 * 256) ^^^ (c % 256) := by
  have h := Nat.two_pow_add_eq_or_of_lt (i := 8) (b := c % 256) (by omega) (c / 256)
  apply Nat.eq_of_testBit_eq
  intro i
  rw [Nat.testBit_xor, show c / 256 * 256 = (c / 256) * 2 ^ 8 from rfl, Nat.testBit_mul_two_pow, show c % 256 = c % 2 ^ 8 from rfl, Nat.testBit_mod_two_pow, show c / 256 = c / 2 ^ 8 from rfl, Nat.testBit_div_two_pow]
  by_cases hi : i < 8
  · simp [hi, show ¬ 8 ≤ i by omega]
  · simp [hi, show 8 ≤ i by omega]
theorem crcB_table (c : Nat) (b : UInt8) : crcB c b = c / 256 ^^^ crcT 8 (c % 256 ^^^ b.toNat) := by
  unfold crcB
  have h : c ^^^ b.toNat = (c / 256 * 256) ^^^ (c % 256 ^^^ b.toNat) := by rw [← Nat.xor_assoc, ← split_byte]
  rw [h, crcT_xor, show c / 256 * 256 = c / 256 * 2 ^ 8 from rfl, crcT_shift]
/-! ### Numbers as so many bytes -/
def beN : Nat → Nat → Bs
  | 0, _ => []
  | k + 1, n => beN k (n / 256) ++ [UInt8.ofNat (n % 256)]
def ofB (l : Bs) : Nat := l.foldl (fun n b => n * 256 + b.toNat) 0
theorem beN_len : ∀ (k n : Nat), (beN k n).length = k
  | 0, _ => rfl
  | k + 1, n => by rw [beN, List.length_append, beN_len]; rfl
theorem ofB_snoc (l : Bs) (b : UInt8) : ofB (l ++ [b]) = ofB l * 256 + b.toNat := by unfold ofB; rw [List.foldl_append]; rfl
theorem ofN_toNat {n : Nat} (h : n < 256) : (UInt8.ofNat n).toNat = n := by simp [Nat.mod_eq_of_lt h]
theorem ofB_beN : ∀ (k n : Nat), ofB (beN k n) = n % 256 ^ k
  | 0, n => by simp [beN, ofB, Nat.mod_one]
  | k + 1, n => by
    rw [beN, ofB_snoc, ofB_beN, ofN_toNat (by omega), Nat.pow_succ]
    rw [Nat.mul_comm (256 ^ k) 256, Nat.mod_mul]
    omega
theorem snoc_of : ∀ (k : Nat) (l : Bs), l.length = k + 1 → ∃ m b, l = m ++ [b] ∧ m.length = k := by
  intro k l h
  have hne : l ≠ [] := by rintro rfl; simp at h
  exact ⟨l.dropLast, l.getLast hne, (List.dropLast_concat_getLast hne).symm, by rw [List.length_dropLast, h]; rfl⟩
theorem beN_ofB : ∀ (k : Nat) (l : Bs), l.length = k → beN k (ofB l) = l
  | 0, l, h => by rw [List.eq_nil_of_length_eq_zero h]; rfl
  | k + 1, l, h => by
    obtain ⟨m, b, rfl, hm⟩ := snoc_of k l h
    have hb := b.toNat_lt
    rw [ofB_snoc, beN, show (ofB m * 256 + b.toNat) / 256 = ofB m by omega, show (ofB m * 256 + b.toNat) % 256 = b.toNat by omega, beN_ofB k m hm]
    congr 2
    exact UInt8.toNat_inj.1 (ofN_toNat (by omega))
theorem ofB_lt : ∀ (k : Nat) (l : Bs), l.length = k → ofB l < 256 ^ k := by
  intro k l h
  have := ofB_beN k (ofB l)
  rw [beN_ofB k l h] at this
  rw [this]
  exact Nat.mod_lt _ (Nat.pow_pos (by omega))
theorem beN1 (b : UInt8) : beN 1 b.toNat = [b] := by
  have := beN_ofB 1 [b] rfl
  have h : ofB [b] = b.toNat := by simp [ofB]
  rw [h] at this; exact this

/-! ### Pages -/
structure Pg where
  lsn : Int
  kind : Int
  level : Int
  right : Int
  high : Bs
  items : List Bs
deriving DecidableEq
def pg0 : Pg := ⟨0, 0, 0, 0, [], []⟩
def zeros (n : Nat) : Bs := List.replicate n 0
theorem zeros_len (n : Nat) : (zeros n).length = n := List.length_replicate
def itB (it : Bs) : Bs := beN 2 it.length ++ it
theorem itB_len (it : Bs) : (itB it).length = 2 + it.length := by rw [itB, List.length_append, beN_len]
def pSize (p : Pg) : Nat := p.items.foldl (fun n it => n + (2 + it.length)) (20 + p.high.length)
def pHead (p : Pg) : Bs := beN 8 p.lsn.toNat ++ (beN 1 p.kind.toNat ++ (beN 1 p.level.toNat ++ (beN 4 p.right.toNat ++ (beN 1 p.items.length ++ (beN 1 p.high.length ++ p.high)))))
def pBody (p : Pg) : Bs := pHead p ++ p.items.flatMap itB
def pText (p : Pg) : Bs := pBody p ++ zeros (508 - (pBody p).length)
def pErr (p : Pg) : Int :=
  bif decide (p.lsn < 0 ∨ p.level < 0 ∨ p.right < 0 ∨ p.kind < 1 ∨ 3 < p.kind ∨ 255 < p.level ∨ 4294967295 < p.right) then 4
  else bif decide (255 < p.high.length ∨ 255 < p.items.length ∨ 512 < pSize p) then 3 else 0
def pEnc (p : Pg) : Bs × Int := bif decide (pErr p = 0) then (beN 4 (crc (pText p)) ++ pText p, 0) else ([], pErr p)
theorem foldl_len (l : List Bs) (n : Nat) : l.foldl (fun n it => n + (2 + it.length)) n = n + (l.flatMap itB).length := by
  induction l generalizing n with
  | nil => simp
  | cons x l ih => rw [List.foldl_cons, ih, List.flatMap_cons, List.length_append, itB_len]; omega
theorem pHead_len (p : Pg) : (pHead p).length = 16 + p.high.length := by
  simp only [pHead, List.length_append, beN_len]; omega
theorem pBody_len (p : Pg) : (pBody p).length + 4 = pSize p := by
  rw [pSize, foldl_len, pBody, List.length_append, pHead_len]; omega
theorem pText_len {p : Pg} (h : pSize p ≤ 512) : (pText p).length = 508 := by
  have := pBody_len p
  rw [pText, List.length_append, zeros_len]; omega
theorem pErr_ok {p : Pg} (h : pErr p = 0) : (0 ≤ p.lsn ∧ 0 ≤ p.level ∧ 0 ≤ p.right ∧ 1 ≤ p.kind ∧ p.kind ≤ 3 ∧ p.level ≤ 255 ∧ p.right ≤ 4294967295) ∧ p.high.length ≤ 255 ∧ p.items.length ≤ 255 ∧ pSize p ≤ 512 := by
  unfold pErr at h
  cases h1 : decide (p.lsn < 0 ∨ p.level < 0 ∨ p.right < 0 ∨ p.kind < 1 ∨ 3 < p.kind ∨ 255 < p.level ∨ 4294967295 < p.right) with
  | true => rw [h1] at h; simp at h
  | false =>
    cases h2 : decide (255 < p.high.length ∨ 255 < p.items.length ∨ 512 < pSize p) with
    | true => rw [h1, h2] at h; simp at h
    | false =>
      rw [decide_eq_false_iff_not] at h1 h2
      omega
theorem pErr_of {p : Pg} (h : (0 ≤ p.lsn ∧ 0 ≤ p.level ∧ 0 ≤ p.right ∧ 1 ≤ p.kind ∧ p.kind ≤ 3 ∧ p.level ≤ 255 ∧ p.right ≤ 4294967295) ∧ p.high.length ≤ 255 ∧ p.items.length ≤ 255 ∧ pSize p ≤ 512) : pErr p = 0 := by
  unfold pErr
  rw [show decide (p.lsn < 0 ∨ p.level < 0 ∨ p.right < 0 ∨ p.kind < 1 ∨ 3 < p.kind ∨ 255 < p.level ∨ 4294967295 < p.right) = false by rw [decide_eq_false_iff_not]; omega, show decide (255 < p.high.length ∨ 255 < p.items.length ∨ 512 < pSize p) = false by rw [decide_eq_false_iff_not]; omega]
  rfl
theorem pEnc_ok {p : Pg} (h : pErr p = 0) : pEnc p = (beN 4 (crc (pText p)) ++ pText p, 0) := by unfold pEnc; rw [h]; rfl
theorem pEnc_bad {p : Pg} (h : pErr p ≠ 0) : pEnc p = ([], pErr p) := by
  unfold pEnc
  rw [show decide (pErr p = 0) = false by simpa using h]; rfl
theorem pEnc_len {p : Pg} (h : pErr p = 0) : (pEnc p).1.length = 512 := by
  rw [pEnc_ok h, List.length_append, beN_len, pText_len (pErr_ok h).2.2.2]
theorem pEnc_err (p : Pg) : (pEnc p).2 = pErr p := by
  by_cases h : pErr p = 0
  · rw [pEnc_ok h, h]
  · rw [pEnc_bad h]

/-! ### Reading -/
def pItems : Nat → Bs → Option (List Bs × Bs)
  | 0, s => some ([], s)
  | n + 1, s => bif decide (s.length < 2) then none
    else bif decide ((s.drop 2).length < ofB (s.take 2)) then none
    else (pItems n ((s.drop 2).drop (ofB (s.take 2)))).map fun x => ((s.drop 2).take (ofB (s.take 2)) :: x.1, x.2)
theorem take_beN (k n : Nat) (t : Bs) : (beN k n ++ t).take k = beN k n := by rw [List.take_append_of_le_length (by rw [beN_len]; exact Nat.le_refl _), List.take_of_length_le (by rw [beN_len]; exact Nat.le_refl _)]
theorem drop_beN (k n : Nat) (t : Bs) : (beN k n ++ t).drop k = t := List.drop_left' (beN_len k n)
theorem pItems_of : ∀ (l : List Bs) (t : Bs), (∀ it ∈ l, it.length < 65536) → pItems l.length (l.flatMap itB ++ t) = some (l, t)
  | [], t, _ => rfl
  | x :: l, t, h => by
    have hx := h x (by simp)
    have ih := pItems_of l t (fun it hi => h it (List.mem_cons_of_mem _ hi))
    rw [List.length_cons, pItems, List.flatMap_cons, itB]
    have e : (beN 2 x.length ++ x ++ l.flatMap itB ++ t) = beN 2 x.length ++ (x ++ (l.flatMap itB ++ t)) := by simp only [List.append_assoc]
    rw [e, take_beN, drop_beN, ofB_beN, Nat.mod_eq_of_lt (by omega)]
    rw [show decide ((beN 2 x.length ++ (x ++ (l.flatMap itB ++ t))).length < 2) = false by rw [decide_eq_false_iff_not, List.length_append, beN_len]; omega, cond_false]
    rw [show decide ((x ++ (l.flatMap itB ++ t)).length < x.length) = false by rw [decide_eq_false_iff_not, List.length_append]; omega, cond_false]
    rw [List.drop_left, List.take_left, ih]; rfl
theorem pItems_is : ∀ (n : Nat) (s : Bs) (l : List Bs) (t : Bs), pItems n s = some (l, t) → l.length = n ∧ s = l.flatMap itB ++ t ∧ ∀ it ∈ l, it.length < 65536
  | 0, s, l, t, h => by
    rw [pItems] at h; cases h
    exact ⟨rfl, rfl, by simp⟩
  | n + 1, s, l, t, h => by
    rw [pItems] at h
    cases h1 : decide (s.length < 2) with
    | true => rw [h1, cond_true] at h; cases h
    | false =>
    cases h2 : decide ((s.drop 2).length < ofB (s.take 2)) with
    | true => rw [h1, h2, cond_false, cond_true] at h; cases h
    | false =>
    rw [h1, h2, cond_false, cond_false] at h
    cases h3 : pItems n ((s.drop 2).drop (ofB (s.take 2))) with
    | none => rw [h3] at h; cases h
    | some q =>
      obtain ⟨l', t'⟩ := q
      rw [h3] at h
      cases h
      obtain ⟨g1, g2, g3⟩ := pItems_is n _ _ _ h3
      rw [decide_eq_false_iff_not] at h1 h2
      have hlt : ofB (s.take 2) < 256 ^ 2 := ofB_lt 2 _ (by rw [List.length_take]; omega)
      have hl : ((s.drop 2).take (ofB (s.take 2))).length = ofB (s.take 2) := by rw [List.length_take]; omega
      refine ⟨by simp [g1], ?_, ?_⟩
      · rw [List.flatMap_cons, itB, hl, beN_ofB 2 _ (by rw [List.length_take]; omega)]
        rw [List.append_assoc, List.append_assoc, ← g2, List.take_append_drop, List.take_append_drop]
      · intro it hi
        rcases List.mem_cons.1 hi with rfl | hi
        · rw [hl]; exact hlt
        · exact g3 it hi

def dLsn (d : Bs) : Nat := ofB ((d.drop 4).take 8)
def dKind (d : Bs) : Nat := (d.getD 12 0).toNat
def dLevel (d : Bs) : Nat := (d.getD 13 0).toNat
def dRight (d : Bs) : Nat := ofB ((d.drop 14).take 4)
def dMany (d : Bs) : Nat := (d.getD 18 0).toNat
def dHl (d : Bs) : Nat := (d.getD 19 0).toNat
def dHigh (d : Bs) : Bs := (d.drop 20).take (dHl d)
def dRest (d : Bs) : Bs := (d.drop 20).drop (dHl d)
def pDec (d : Bs) : Pg × Int :=
  bif decide (d.length ≠ 512) then (pg0, 31)
  else bif decide (beN 4 (crc (d.drop 4)) ≠ d.take 4) then (pg0, 30)
  else match pItems (dMany d) (dRest d) with
    | none => (pg0, 31)
    | some (l, t) => bif decide (t ≠ zeros t.length ∨ 127 < (d.getD 4 0).toNat ∨ dKind d < 1 ∨ 3 < dKind d) then (pg0, 31)
      else (⟨(dLsn d % 2 ^ 63 : Nat), dKind d, dLevel d, dRight d, dHigh d, l⟩, 0)

def parts (s l8 : Bs) (k v : UInt8) (r : Bs) (n h : UInt8) (tail : Bs) : Bs := s ++ (l8 ++ (k :: v :: (r ++ (n :: h :: tail))))
theorem parts_of {d : Bs} (h : d.length = 512) : ∃ s l8 k v r n hh tail, d = parts s l8 k v r n hh tail ∧ s.length = 4 ∧ l8.length = 8 ∧ r.length = 4 ∧ tail.length = 492 := by
  match d, h with
  | s0 :: s1 :: s2 :: s3 :: a0 :: a1 :: a2 :: a3 :: a4 :: a5 :: a6 :: a7 :: k :: v :: r0 :: r1 :: r2 :: r3 :: n :: hh :: tail, h =>
    exact ⟨[s0, s1, s2, s3], [a0, a1, a2, a3, a4, a5, a6, a7], k, v, [r0, r1, r2, r3], n, hh, tail, rfl, rfl, rfl, rfl, by simp only [List.length_cons] at h; omega⟩
theorem parts_is {s l8 r tail : Bs} {k v n h : UInt8} (hs : s.length = 4) (h8 : l8.length = 8) (hr : r.length = 4) :
    (parts s l8 k v r n h tail).take 4 = s ∧ (parts s l8 k v r n h tail).drop 4 = l8 ++ (k :: v :: (r ++ (n :: h :: tail))) ∧ dLsn (parts s l8 k v r n h tail) = ofB l8 ∧ dKind (parts s l8 k v r n h tail) = k.toNat ∧ dLevel (parts s l8 k v r n h tail) = v.toNat ∧
    dRight (parts s l8 k v r n h tail) = ofB r ∧ dMany (parts s l8 k v r n h tail) = n.toNat ∧ dHl (parts s l8 k v r n h tail) = h.toNat ∧ (parts s l8 k v r n h tail).drop 20 = tail ∧ (parts s l8 k v r n h tail).getD 4 0 = l8.getD 0 0 := by
  match s, hs, l8, h8, r, hr with
  | [s0, s1, s2, s3], _, [a0, a1, a2, a3, a4, a5, a6, a7], _, [r0, r1, r2, r3], _ => exact ⟨rfl, rfl, rfl, rfl, rfl, rfl, rfl, rfl, rfl, rfl⟩
theorem ofB_top {l8 : Bs} (h8 : l8.length = 8) : 127 < (l8.getD 0 0).toNat ↔ 9223372036854775808 ≤ ofB l8 := by
  match l8, h8 with
  | [a0, a1, a2, a3, a4, a5, a6, a7], _ =>
    have h0 := a0.toNat_lt
    have h1 := a1.toNat_lt
    have h2 := a2.toNat_lt
    have h3 := a3.toNat_lt
    have h4 := a4.toNat_lt
    have h5 := a5.toNat_lt
    have h6 := a6.toNat_lt
    have h7 := a7.toNat_lt
    show 127 < a0.toNat ↔ _
    simp only [ofB, List.foldl_cons, List.foldl_nil]
    omega
theorem pText_parts (p : Pg) (s : Bs) : s ++ pText p = parts s (beN 8 p.lsn.toNat) (UInt8.ofNat (p.kind.toNat % 256)) (UInt8.ofNat (p.level.toNat % 256)) (beN 4 p.right.toNat) (UInt8.ofNat (p.items.length % 256)) (UInt8.ofNat (p.high.length % 256)) (p.high ++ (p.items.flatMap itB ++ zeros (508 - (pBody p).length))) := by
  rw [pText, pBody, pHead, parts]
  simp only [List.append_assoc]
  rfl
theorem item_short {p : Pg} (h : pSize p ≤ 512) : ∀ it ∈ p.items, it.length < 65536 := by
  intro it hi
  rw [pSize, foldl_len] at h
  have : it.length ≤ (p.items.flatMap itB).length := by
    obtain ⟨l1, l2, e⟩ := List.append_of_mem hi
    rw [e, List.flatMap_append, List.flatMap_cons, List.length_append, List.length_append, itB_len]; omega
  omega
theorem dec_enc {p : Pg} (h : pErr p = 0) (hl : p.lsn ≤ 9223372036854775807) : pDec (pEnc p).1 = (p, 0) := by
  obtain ⟨⟨b1, b2, b3, b4, b5, b6, b7⟩, b8, b9, b10⟩ := pErr_ok h
  have hlen := pEnc_len h
  rw [pEnc_ok h] at hlen ⊢
  simp only at hlen ⊢
  obtain ⟨q1, q2, q3, q4, q5, q6, q7, q8, q9, q10⟩ := parts_is (s := beN 4 (crc (pText p))) (l8 := beN 8 p.lsn.toNat) (k := UInt8.ofNat (p.kind.toNat % 256)) (v := UInt8.ofNat (p.level.toNat % 256)) (r := beN 4 p.right.toNat) (n := UInt8.ofNat (p.items.length % 256)) (h := UInt8.ofNat (p.high.length % 256)) (tail := p.high ++ (p.items.flatMap itB ++ zeros (508 - (pBody p).length))) (beN_len _ _) (beN_len _ _) (beN_len _ _)
  have hp := pText_parts p (beN 4 (crc (pText p)))
  have hd4 : (beN 4 (crc (pText p)) ++ pText p).drop 4 = pText p := drop_beN _ _ _
  generalize hD : beN 4 (crc (pText p)) ++ pText p = D at hlen hd4 hp
  rw [← hp] at q1 q2 q3 q4 q5 q6 q7 q8 q9 q10
  rw [ofN_toNat (by omega)] at q4 q5 q7 q8
  rw [ofB_beN] at q3 q6
  have hmany : dMany D = p.items.length := by rw [q7]; omega
  have hhl : dHl D = p.high.length := by rw [q8]; omega
  have hhigh : dHigh D = p.high := by rw [dHigh, q9, hhl, List.take_left]
  have hrest : dRest D = p.items.flatMap itB ++ zeros (508 - (pBody p).length) := by rw [dRest, q9, hhl, List.drop_left]
  have htop : ¬ 127 < (D.getD 4 0).toNat := by
    rw [q10, ofB_top (beN_len _ _), ofB_beN]; omega
  unfold pDec
  rw [show decide (D.length ≠ 512) = false by simpa using hlen, cond_false]
  rw [show decide (beN 4 (crc (D.drop 4)) ≠ D.take 4) = false by rw [hd4, q1]; simp, cond_false]
  rw [hmany, hrest, pItems_of _ _ (item_short b10)]
  simp only
  have hz : ¬ zeros (508 - (pBody p).length) ≠ zeros (zeros (508 - (pBody p).length)).length := by rw [zeros_len]; simp
  rw [show decide (zeros (508 - (pBody p).length) ≠ zeros (zeros (508 - (pBody p).length)).length ∨ 127 < (D.getD 4 0).toNat ∨ dKind D < 1 ∨ 3 < dKind D) = false by
    rw [decide_eq_false_iff_not]
    rintro (h | h | h | h)
    · exact hz h
    · exact htop h
    · omega
    · omega, cond_false]
  rw [q3, q4, q5, q6, hhigh]
  obtain ⟨lsn, kind, level, right, high, items⟩ := p
  simp only at b1 b2 b3 b4 b5 b6 b7 hl ⊢
  congr 2 <;> omega
theorem enc_dec {d : Bs} (h : (pDec d).2 = 0) : pErr (pDec d).1 = 0 ∧ (pEnc (pDec d).1).1 = d ∧ (pDec d).1.lsn ≤ 9223372036854775807 := by
  unfold pDec at h ⊢
  cases h1 : decide (d.length ≠ 512) with
  | true => rw [h1, cond_true] at h; simp at h
  | false =>
  cases h2 : decide (beN 4 (crc (d.drop 4)) ≠ d.take 4) with
  | true => rw [h1, h2, cond_false, cond_true] at h; simp at h
  | false =>
  rw [h1, h2, cond_false, cond_false] at h
  simp only [cond_false]
  cases h3 : pItems (dMany d) (dRest d) with
  | none => rw [h3] at h; simp at h
  | some q =>
  obtain ⟨l, t⟩ := q
  rw [h3] at h
  simp only at h ⊢
  cases h4 : decide (t ≠ zeros t.length ∨ 127 < (d.getD 4 0).toNat ∨ dKind d < 1 ∨ 3 < dKind d) with
  | true => rw [h4, cond_true] at h; simp at h
  | false =>
  simp only [cond_false]
  have hlen : d.length = 512 := by simpa using h1
  have hsum : beN 4 (crc (d.drop 4)) = d.take 4 := by simpa using h2
  rw [decide_eq_false_iff_not] at h4
  have n1 : t = zeros t.length := Classical.byContradiction fun hne => h4 (.inl hne)
  have n2 : ¬ 127 < (d.getD 4 0).toNat := fun e => h4 (.inr (.inl e))
  have n3 : ¬ dKind d < 1 := fun e => h4 (.inr (.inr (.inl e)))
  have n4 : ¬ 3 < dKind d := fun e => h4 (.inr (.inr (.inr e)))
  obtain ⟨g1, g2, g3⟩ := pItems_is _ _ _ _ h3
  obtain ⟨s, l8, k, v, r, n, hh, tail, hd, es, e8, er, et⟩ := parts_of hlen
  obtain ⟨q1, q2, q3, q4, q5, q6, q7, q8, q9, q10⟩ := parts_is (k := k) (v := v) (n := n) (h := hh) (tail := tail) es e8 er
  rw [← hd] at q1 q2 q3 q4 q5 q6 q7 q8 q9 q10
  have hl8 : ofB l8 < 9223372036854775808 := by
    rw [q10, ofB_top e8] at n2; omega
  have hk := k.toNat_lt
  have hv := v.toNat_lt
  have hn := n.toNat_lt
  have hhh := hh.toNat_lt
  have hr := ofB_lt 4 r er
  have hhigh : (dHigh d).length = hh.toNat := by rw [dHigh, q9, q8, List.length_take, et]; omega
  have htail : tail = dHigh d ++ (l.flatMap itB ++ t) := by rw [← g2, dHigh, dRest, q9, List.take_append_drop]
  generalize hP : (⟨(dLsn d % 2 ^ 63 : Nat), dKind d, dLevel d, dRight d, dHigh d, l⟩ : Pg) = P
  have hbody : d.drop 4 = pBody P ++ t := by
    rw [q2, ← hP, pBody, pHead]
    simp only [Int.toNat_natCast, q3, q4, q5, q6, hhigh, g1, q7]
    rw [Nat.mod_eq_of_lt (show ofB l8 < 2 ^ 63 by omega), beN_ofB 8 l8 e8, beN_ofB 4 r er, beN1, beN1, beN1, beN1, htail]
    simp only [List.append_assoc, List.cons_append, List.nil_append]
  have hbl : (pBody P).length + t.length = 508 := by
    have := congrArg List.length hbody
    rw [List.length_append, List.length_drop, hlen] at this; omega
  have htz : t = zeros (508 - (pBody P).length) := by
    rw [show 508 - (pBody P).length = t.length by omega]
    exact n1
  have hsz : pSize P ≤ 512 := by have := pBody_len P; omega
  have hok : pErr P = 0 := by
    refine pErr_of ⟨?_, ?_, ?_, hsz⟩
    · rw [← hP]
      simp only
      omega
    · rw [← hP]; simp only; omega
    · rw [← hP]; simp only; omega
  refine ⟨hok, ?_, ?_⟩
  · rw [pEnc_ok hok]
    have ht : pText P = d.drop 4 := by rw [pText, ← htz, hbody]
    simp only
    rw [ht, hsum, List.take_append_drop]
  · omega

end Go.Al

namespace Go.Al
set_option linter.unusedVariables false
set_option linter.unusedSimpArgs false
set_option linter.unusedSectionVars false

abbrev uv (n : Nat) : Value := Value.int .u32 n
abbrev qv (n : Nat) : Value := Value.int .u64 n
theorem cvI_int (k j : IntKind) (n : Int) : cvI k (.int j n) = some (.int k (k.wrap n)) := rfl
theorem wrap_u32 {n : Nat} (h : n < 2 ^ 32) : IntKind.u32.wrap (n : Int) = n := by
  unfold IntKind.wrap; simp [IntKind.bits, IntKind.signed]; omega
theorem wrap_u64 {n : Nat} (h : n < 2 ^ 64) : IntKind.u64.wrap (n : Int) = n := by
  unfold IntKind.wrap; simp [IntKind.bits, IntKind.signed]; omega
theorem wrap_u64_mod (n : Nat) : IntKind.u64.wrap (n : Int) = ((n % 2 ^ 64 : Nat) : Int) := by
  unfold IntKind.wrap; simp [IntKind.bits, IntKind.signed]
theorem wrap_u8_mod (n : Nat) : IntKind.u8.wrap (n : Int) = ((n % 256 : Nat) : Int) := by
  unfold IntKind.wrap; simp [IntKind.bits, IntKind.signed]
theorem xor_u32 (d : TypeDesc) {a b : Nat} (ha : a < 2 ^ 32) (hb : b < 2 ^ 32) : binV d .xor (uv a) (uv b) = some (uv (a ^^^ b)) := by
  have : binV d .xor (uv a) (uv b) = some (.int .u32 (IntKind.u32.wrap ((BitVec.ofInt 32 (a : Int)) ^^^ (BitVec.ofInt 32 (b : Int))).toNat)) := rfl
  rw [this, BitVec.toNat_xor, ofInt_nat 32 a ha, ofInt_nat 32 b hb, wrap_u32 (Nat.xor_lt_two_pow ha hb)]
theorem and_u32 (d : TypeDesc) {a b : Nat} (ha : a < 2 ^ 32) (hb : b < 2 ^ 32) : binV d .and (uv a) (uv b) = some (uv (a &&& b)) := by
  have : binV d .and (uv a) (uv b) = some (.int .u32 (IntKind.u32.wrap ((BitVec.ofInt 32 (a : Int)) &&& (BitVec.ofInt 32 (b : Int))).toNat)) := rfl
  rw [this, BitVec.toNat_and, ofInt_nat 32 a ha, ofInt_nat 32 b hb, wrap_u32 (Nat.lt_of_le_of_lt Nat.and_le_left ha)]
theorem not_u32 {a : Nat} (ha : a < 2 ^ 32) : unV .xor (uv a) = some (uv (a ^^^ 4294967295)) := by
  have : unV .xor (uv a) = some (.int .u32 (IntKind.u32.wrap ((BitVec.ofInt 32 (4294967295 : Nat)) ^^^ (BitVec.ofInt 32 (a : Int))).toNat)) := rfl
  rw [this, BitVec.toNat_xor, ofInt_nat 32 a ha, ofInt_nat 32 4294967295 (by omega), Nat.xor_comm, wrap_u32 (Nat.xor_lt_two_pow ha (by omega))]
theorem shr_u32 (d : TypeDesc) {a k : Nat} (hk : k ≤ 32) (j : IntKind) {b : Int} (hb : b = (k : Int)) : binV d .shr (uv a) (.int j b) = some (uv (a / 2 ^ k)) := by
  subst hb
  have h0 : ¬ ((k : Int) < 0) := by omega
  have e : binV d .shr (uv a) (.int j k) = some (.int .u32 ((a : Int).fdiv (2 ^ (min (k : Int).toNat IntKind.u32.bits)))) := by
    rw [binV_shr]; unfold shV; rw [if_neg h0]
  rw [e]
  have e2 : min (k : Int).toNat IntKind.u32.bits = k := by show min (k : Int).toNat 32 = k; omega
  rw [e2]
  congr 2
  rw [Int.fdiv_eq_ediv_of_nonneg _ (by exact Int.pow_nonneg (by decide))]
  have : ((2 : Int) ^ k) = ((2 ^ k : Nat) : Int) := by push_cast; rfl
  rw [this]; rfl
theorem shl_u64 (d : TypeDesc) (a : Nat) (j : IntKind) : binV d .shl (qv a) (.int j 8) = some (qv (a * 256 % 2 ^ 64)) := by
  have e : binV d .shl (qv a) (.int j 8) = some (.int .u64 (IntKind.u64.wrap ((a : Int) * 2 ^ 8))) := rfl
  rw [e, show (a : Int) * 2 ^ 8 = ((a * 256 : Nat) : Int) by omega, wrap_u64_mod]
theorem or_u64 (d : TypeDesc) {a b : Nat} (ha : a < 2 ^ 64) (hb : b < 256) (hz : a % 256 = 0) : binV d .or (qv a) (qv b) = some (qv (a + b)) := by
  have : binV d .or (qv a) (qv b) = some (.int .u64 (IntKind.u64.wrap ((BitVec.ofInt 64 (a : Int)) ||| (BitVec.ofInt 64 (b : Int))).toNat)) := rfl
  rw [this, BitVec.toNat_or, ofInt_nat 64 a ha, ofInt_nat 64 b (by omega)]
  have e : a ||| b = a + b := by
    have := Nat.two_pow_add_eq_or_of_lt (i := 8) (b := b) (by omega) (a / 256)
    have h2 : 2 ^ 8 * (a / 256) = a := by omega
    rw [h2] at this
    exact this.symm
  rw [e, wrap_u64 (by omega)]
theorem top_u64 (d : TypeDesc) {a : Nat} (ha : a < 2 ^ 64) : binV d .andNot (qv a) (.int .u64 9223372036854775808) = some (qv (a % 2 ^ 63)) := by
  have : binV d .andNot (qv a) (.int .u64 9223372036854775808) = some (.int .u64 (IntKind.u64.wrap ((BitVec.ofInt 64 (a : Int)) &&& ~~~ (BitVec.ofInt 64 ((2 ^ 63 : Nat) : Int))).toNat)) := rfl
  rw [this, BitVec.toNat_and, BitVec.toNat_not, ofInt_nat 64 a ha, ofInt_nat 64 (2 ^ 63) (by omega)]
  have e : a &&& (2 ^ 64 - 1 - 2 ^ 63) = a % 2 ^ 63 := by
    have : 2 ^ 64 - 1 - 2 ^ 63 = 2 ^ 63 - 1 := by omega
    rw [this]; exact Nat.and_two_pow_sub_one_eq_mod a 63
  rw [e, wrap_u64 (by omega)]
theorem quo_u32 (d : TypeDesc) {a : Nat} (ha : a < 2 ^ 32) : binV d .quo (uv a) (.int .u32 2) = some (uv (a / 2)) := by
  rw [binV_quo, if_neg (by omega)]
  have : (a : Int).tdiv 2 = ((a / 2 : Nat) : Int) := by rw [Int.tdiv_eq_ediv_of_nonneg (by omega)]; rfl
  rw [this, wrap_u32 (by omega)]
theorem rem_u32 (d : TypeDesc) (a : Nat) : binV d .rem (uv a) (.int .u32 2) = some (uv (a % 2)) := by
  rw [binV_rem, if_neg (by omega)]
  have : (a : Int).tmod 2 = ((a % 2 : Nat) : Int) := by rw [Int.tmod_eq_emod_of_nonneg (by omega)]; rfl
  rw [this]
theorem beN_get : ∀ (k n i : Nat), i < k → (beN k n)[i]? = some (UInt8.ofNat (n / 256 ^ (k - 1 - i) % 256))
  | 0, _, _, h => by omega
  | k + 1, n, i, h => by
    rw [beN]
    by_cases hi : i < k
    · rw [List.getElem?_append_left (by rw [beN_len]; exact hi), beN_get k _ i hi]
      congr 3
      rw [Nat.div_div_eq_div_mul, ← Nat.pow_succ']
      congr 2
      omega
    · obtain rfl : i = k := by omega
      rw [List.getElem?_append_right (by rw [beN_len]; exact Nat.le_refl _), beN_len]
      simp
def bigB (n w : Int) : Bs := bif decide (w < 1) || decide (8 < w) || decide (n < 0) then [] else beN w.toNat n.toNat
theorem bigB_of {n w : Nat} (h1 : 1 ≤ w) (h8 : w ≤ 8) : bigB (n : Int) (w : Int) = beN w n := by
  unfold bigB
  rw [show (decide ((w : Int) < 1) || decide (8 < (w : Int)) || decide ((n : Int) < 0)) = false by simp; omega]
  simp
def of64 (l : Bs) : Nat := l.foldl (fun n b => (n * 256 + b.toNat) % 2 ^ 64) 0
theorem of64_eq (l : Bs) : of64 l = ofB l % 2 ^ 64 := by
  have key : ∀ (l : Bs) (a b : Nat), a = b % 2 ^ 64 → l.foldl (fun n b => (n * 256 + b.toNat) % 2 ^ 64) a = l.foldl (fun n b => n * 256 + b.toNat) b % 2 ^ 64 := by
    intro l
    induction l with
    | nil => intro a b h; exact h
    | cons x l ih =>
      intro a b h
      refine ih _ _ ?_
      show (a * 256 + x.toNat) % 2 ^ 64 = (b * 256 + x.toNat) % 2 ^ 64
      omega
  exact key l 0 0 (by simp)
def ofN (l : Bs) : Nat := ofB l % 2 ^ 63
theorem ofN_short {l : Bs} (h : l.length ≤ 7) : ofN l = ofB l := by
  have := ofB_lt l.length l rfl
  have h2 : 256 ^ l.length ≤ 256 ^ 7 := Nat.pow_le_pow_right (by omega) h
  unfold ofN
  exact Nat.mod_eq_of_lt (by omega)

end Go.Al

namespace Go.Al
set_option linter.unusedVariables false
set_option linter.unusedSimpArgs false
set_option linter.unusedSectionVars false

def rdN (most : Int) : Nat → Nat → Nat → Bs → Int × Bs × Int
  | 0, _, _, _ => (0, [], 11)
  | _ + 1, _, _, [] => (0, [], 10)
  | f + 1, k, n, b :: t =>
    let n' := n + (b.toNat % 128) * 128 ^ k
    bif decide (b = 0 ∧ 0 < k) then (0, [], 11)
    else bif decide (128 ≤ b.toNat) then rdN most f (k + 1) n' t
    else bif decide (max most 0 < (n' : Int)) then (0, [], 11)
    else (n', t, 0)
def rdNum (most : Int) (s : Bs) (e : Int) : Int × Bs × Int := bif decide (e = 0) then rdN most 9 0 0 s else (0, s, e)
def endE (s : Bs) (e : Int) : Int := bif decide (e = 0) && decide (0 < s.length) then 12 else e

def encN (n : Nat) : Bs := if 127 < n then UInt8.ofNat (n % 128 + 128) :: encN (n / 128) else [UInt8.ofNat n]
termination_by n
decreasing_by omega
theorem encN_small {n : Nat} (h : n ≤ 127) : encN n = [UInt8.ofNat n] := by rw [encN, if_neg (by omega)]
theorem encN_big {n : Nat} (h : 127 < n) : encN n = UInt8.ofNat (n % 128 + 128) :: encN (n / 128) := by rw [encN, if_pos h]
theorem encN_len : ∀ (f n : Nat), n < 128 ^ f → (encN n).length ≤ max f 1
  | 0, n, h => by rw [encN_small (by omega)]; simp
  | f + 1, n, h => by
    by_cases hn : 127 < n
    · rw [encN_big hn, List.length_cons]
      have := encN_len f (n / 128) (by rw [Nat.div_lt_iff_lt_mul (by omega)]; rw [Nat.pow_succ] at h; exact h)
      have hf : f ≠ 0 := by rintro rfl; simp at h; omega
      omega
    · rw [encN_small (by omega)]; simp
theorem encN_le {n : Nat} (h : n ≤ 9223372036854775807) : 1 ≤ (encN n).length ∧ (encN n).length ≤ 9 := by
  have := encN_len 9 n (by omega)
  refine ⟨?_, by omega⟩
  by_cases hn : 127 < n
  · rw [encN_big hn]; simp
  · rw [encN_small (by omega)]; simp
theorem u8_ofNat {n : Nat} (h : n < 256) : (UInt8.ofNat n).toNat = n := by simp [Nat.mod_eq_of_lt h]
theorem rdN_enc (most : Int) : ∀ (f k n m : Nat) (t : Bs), n < 128 ^ f → 0 < f → (0 < k → 0 < n) → (m + n * 128 ^ k : Nat) ≤ max most 0 → rdN most f k m (encN n ++ t) = (((m + n * 128 ^ k : Nat) : Int), t, 0)
  | 0, k, n, m, t, h, h0, hk, hm => by omega
  | f + 1, k, n, m, t, h, h0, hk, hm => by
    by_cases hn : 127 < n
    · rw [encN_big hn, List.cons_append, rdN]
      have e1 : (UInt8.ofNat (n % 128 + 128)).toNat = n % 128 + 128 := u8_ofNat (by omega)
      have hne : decide (UInt8.ofNat (n % 128 + 128) = 0 ∧ 0 < k) = false := by
        rw [decide_eq_false_iff_not]
        rintro ⟨h, _⟩
        have := congrArg UInt8.toNat h
        rw [e1] at this; simp at this
      simp only [e1, hne, cond_false, show decide (128 ≤ n % 128 + 128) = true by simp, cond_true, Nat.add_mod_right, Nat.mod_mod]
      have hd : n / 128 < 128 ^ f := by rw [Nat.div_lt_iff_lt_mul (by omega)]; rw [Nat.pow_succ] at h; exact h
      have hf : 0 < f := by
        rcases Nat.eq_zero_or_pos f with rfl | hf
        · simp at h; omega
        · exact hf
      have key : m + n % 128 * 128 ^ k + n / 128 * 128 ^ (k + 1) = m + n * 128 ^ k := by
        have hdm := Nat.div_add_mod n 128
        calc m + n % 128 * 128 ^ k + n / 128 * 128 ^ (k + 1) = m + (128 * (n / 128) + n % 128) * 128 ^ k := by rw [Nat.pow_succ, Nat.add_mul]; simp only [Nat.mul_assoc, Nat.mul_comm, Nat.mul_left_comm]; omega
          _ = m + n * 128 ^ k := by rw [hdm]
      have := rdN_enc most f (k + 1) (n / 128) (m + n % 128 * 128 ^ k) t hd hf (fun _ => by omega) (by rw [key]; exact hm)
      rw [this, key]
    · rw [encN_small (by omega), List.cons_append, List.nil_append, rdN]
      have e1 : (UInt8.ofNat n).toNat = n := u8_ofNat (by omega)
      have hne : decide (UInt8.ofNat n = 0 ∧ 0 < k) = false := by
        rw [decide_eq_false_iff_not]
        rintro ⟨h, h2⟩
        have := congrArg UInt8.toNat h
        rw [e1] at this
        have := hk h2
        simp_all
      have e2 : n % 128 = n := Nat.mod_eq_of_lt (by omega)
      have e3 : decide (max most 0 < ((m + n * 128 ^ k : Nat) : Int)) = false := by rw [decide_eq_false_iff_not]; omega
      simp only [e1, hne, cond_false, show decide (128 ≤ n) = false by rw [decide_eq_false_iff_not]; omega, e2, e3]
theorem rdN_in (most : Int) : ∀ (f k n : Nat) (s : Bs), 0 ≤ (rdN most f k n s).1 ∧ (rdN most f k n s).1 ≤ max most 0 ∧ (rdN most f k n s).2.1.length ≤ s.length
  | 0, k, n, s => by simp [rdN]; omega
  | f + 1, k, n, [] => by simp [rdN]; omega
  | f + 1, k, n, b :: t => by
    rw [rdN]
    cases h1 : decide (b = 0 ∧ 0 < k) with
    | true => simp only [cond_true]; simp; omega
    | false =>
      simp only [cond_false]
      cases h2 : decide (128 ≤ b.toNat) with
      | true =>
        simp only [cond_true]
        have := rdN_in most f (k + 1) (n + b.toNat % 128 * 128 ^ k) t
        refine ⟨this.1, this.2.1, by simp; omega⟩
      | false =>
        simp only [cond_false]
        cases h3 : decide (max most 0 < ((n + b.toNat % 128 * 128 ^ k : Nat) : Int)) with
        | true => simp only [cond_true]; simp; omega
        | false =>
          simp only [cond_false]
          rw [decide_eq_false_iff_not] at h3
          refine ⟨by omega, by omega, by simp⟩

theorem or_add {n c k : Nat} (h : n < 2 ^ k) : n ||| (c * 2 ^ k) = n + c * 2 ^ k := by
  have := Nat.two_pow_add_eq_or_of_lt h c
  rw [Nat.or_comm, Nat.mul_comm c, ← this]; omega
theorem and127 (n : Nat) : n &&& 127 = n % 128 := Nat.and_two_pow_sub_one_eq_mod n 7
theorem or128 {n : Nat} (h : n < 256) : n ||| 128 = n % 128 + 128 := by
  have h1 : n = 128 * (n / 128) + n % 128 := (Nat.div_add_mod n 128).symm
  have h2 : n / 128 = 0 ∨ n / 128 = 1 := by omega
  rcases h2 with h2 | h2
  · have h3 : n < 2 ^ 7 := by omega
    have := or_add (c := 1) h3
    simp at this
    rw [this]; omega
  · have h4 := or_add (n := n % 128) (c := 1) (k := 7) (by omega)
    simp at h4
    have h5 : n = n % 128 ||| 128 := by rw [h4]; omega
    rw [h5, Nat.or_assoc, Nat.or_self, ← h5]; omega
theorem ixS_str {s : Bs} {k : Nat} {b : UInt8} (h : s[k]? = some b) (i : IntKind) : ixS (stv s) (.int i k) = some (.int .u8 b.toNat) := by
  have hl := (List.getElem?_eq_some_iff.1 h).1
  have hk : k < (str s).size := by rw [str_size]; exact hl
  have h1 : (str s)[k]? = some b := by
    rw [getElem?_pos (str s) k hk]
    have h2 : (str s)[k] = s[k] := rfl
    rw [h2]
    rw [List.getElem?_eq_getElem hl] at h; exact h
  simp [ixS, h1]
theorem shl_nat (a k : Nat) (h : a * 2 ^ k ≤ 9223372036854775807) (hk : k ≤ 64) (d : TypeDesc) (j : IntKind) : binV d .shl (iv a) (.int j k) = some (iv ((a * 2 ^ k : Nat) : Int)) := by
  have h0 : ¬ ((k : Int) < 0) := by omega
  have e : binV d .shl (iv a) (.int j k) = some (iv (IntKind.i64.wrap ((a : Int) * 2 ^ (min (k : Int).toNat IntKind.i64.bits)))) := by
    rw [binV_shl]; unfold shV; rw [if_neg h0]
  rw [e]
  have e2 : min (k : Int).toNat IntKind.i64.bits = k := by show min (k : Int).toNat 64 = k; omega
  rw [e2]
  have e3 : (a : Int) * 2 ^ k = ((a * 2 ^ k : Nat) : Int) := by push_cast; rfl
  rw [e3, wrap_nat h]
theorem shr_nat (a k : Nat) (hk : k ≤ 64) (d : TypeDesc) (j : IntKind) : binV d .shr (iv a) (.int j k) = some (iv ((a / 2 ^ k : Nat) : Int)) := by
  have h0 : ¬ ((k : Int) < 0) := by omega
  have e : binV d .shr (iv a) (.int j k) = some (iv ((a : Int).fdiv (2 ^ (min (k : Int).toNat IntKind.i64.bits)))) := by
    rw [binV_shr]; unfold shV; rw [if_neg h0]
  rw [e]
  have e2 : min (k : Int).toNat IntKind.i64.bits = k := by show min (k : Int).toNat 64 = k; omega
  rw [e2]
  congr 2
  rw [Int.fdiv_eq_ediv_of_nonneg _ (by exact Int.pow_nonneg (by decide))]
  have : ((2 : Int) ^ k) = ((2 ^ k : Nat) : Int) := by push_cast; rfl
  rw [this]; rfl

end Go.Al

namespace Go.Al
set_option linter.unusedVariables false
set_option linter.unusedSimpArgs false
set_option linter.unusedSectionVars false
open Go.ChangeShapes Go.WideShapes Go.ChangeAt Go.RowKit

theorem trodAll_below {H : Type} {enc : TypeId × Value → H} {P : Program} (hl : laidOutB P = true) {W W' : World} (hb : Below W.heap.size W W') :
    ∀ {ts : List TypeId} {vs : List Value} {ds : List (DataW H)} {ps : List MemPlace}, (∀ t ∈ ts, P.readableRec t = true ∧ t < P.types.size) → DataW.TrodAll enc P W 0 (fun _ => true) true ts vs ds ps → (∀ x ∈ ps, x.block < W.heap.size) →
      DataW.TrodAll enc P W' 0 (fun b => decide (b < W.heap.size)) true ts vs ds ps
  | [], [], [], _, _, h, _ => h
  | t :: ts, v :: vs, d :: ds, ps, hr, h, hlt => by
    obtain ⟨p, q, h1, h2, rfl⟩ := h
    exact ⟨p, q, Below.trod hl (hr t (by simp)).1 (hr t (by simp)).2 h1 hb (fun x hx => hlt x (by simp [hx])), trodAll_below hl hb (fun t ht => hr t (by simp [ht])) h2 (fun x hx => hlt x (by simp [hx])), rfl⟩
  | [], _ :: _, _, _, _, h, _ => by cases h
  | [], [], _ :: _, _, _, h, _ => by cases h
  | _ :: _, [], _, _, _, h, _ => by cases h
  | _ :: _, _ :: _, [], _, _, h, _ => by cases h

theorem cl_true {P : Program} {g : FuncId} {args : Array Value} {w : World} (h : Cl P g args.toList w fun v w' => v = .bool true ∧ Fm (fun _ => False) w w') :
    Calls P g args w fun e w' => e = .returned (.bool true) ∧ Below w.heap.size w w' := by
  have := h.out
  unfold Cl0 at this
  simp only [Array.toArray_toList] at this
  refine this.mono fun e w' he => ?_
  cases e with
  | returned v => exact ⟨by rw [he.1], he.2.below⟩
  | panicked c => exact he.elim
  | outgrown => exact he.elim

structure LawIn {H : Type} (enc : TypeId × Value → H) (P : Program) (ts : List TypeId) (W : World) (args : List Value) (ds : List (DataW H)) (p : List MemPlace) : Prop where
  trod : DataW.TrodAll enc P W 0 (fun _ => true) true ts args ds p
  ok : ∃ base, ∀ (j : Nat) t v, ts[j]? = some t → args[j]? = some v → Value.okWide P W .any base t v
  sized : (DataW.weightsEach P ts ds).all (· ≤ reachBytes) = true
  lt : ∀ x ∈ p, x.block < W.heap.size

theorem law_lifted {H : Type} {enc : TypeId × Value → H} {C : Checked} {os : Os} {f : FuncId} {fn : Func} {s : ChangeSpec} {conds : List PathCond} {tb : TypeId} (own : ownKnob C.prog.godebug = none) (started : os.Started) (noInit : C.prog.inits.idxOf? f = none) (hfn : C.prog.funcs[f]? = some fn)
    (hlaid : laidOutB C.prog = true)
    (witness : ∃ (w : World) (tape : Tape) (i : Input), w.os = os ∧ (w.forCall tape i).Shaped C.prog ∧ i.vars = [] ∧ Input.okWide C.prog (w.forCall tape i) .any w.heap.size f i ∧
      s.pre6 enc C.prog fn conds false (w.forCall tape i).memory i.args ∧ ({} : Assume).holds C.prog (lone (Frame.enter C.prog f i.args .normal) [] (w.forCall tape i)))
    (hres : fn.resultTypes = #[tb]) (hbool : C.prog.underlying tb = some .bool) (hvars : s.vars = [])
    (hrow : ∀ t ∈ fn.params.toList, C.prog.readableRec t = true ∧ t < C.prog.types.size)
    (hs : ∀ ds : List (DataW H), ds.length = fn.params.toList.length → s.fn H ds = { results := [.lit (.bool true)], args := ds, vars := [] })
    (law : ∀ (W : World) (args : List Value) (ds : List (DataW H)) (p : List MemPlace), LawIn enc C.prog fn.params.toList W args ds p → Cl C.prog f args W fun v w' => v = .bool true ∧ Fm (fun _ => False) W w') :
    ReturnsInHanded {} C os f .any (s.pre6 enc C.prog fn conds false) (s.post enc C.prog fn false true false false) := by
  refine returnsInHanded_of_change_sized own started noInit hfn witness ?_
  intro W base args ds gs before hval hW hcnd hsz _
  have hW' := hW
  obtain ⟨p, q, hA, hV, rfl, hfz, hnd⟩ := hW
  rw [hvars] at hV
  obtain ⟨rfl, rfl⟩ := trodVars_none hV
  have hty : s.plain.varTypes C.prog = [] := by simp [DataSpec.varTypes, ChangeSpec.plain, hvars]
  simp only [hty, List.append_nil] at hsz
  have hlt : ∀ x ∈ p, x.block < W.heap.size := fun x hx => hW'.lt x (by simp [hx])
  have hlen := (trodAll_length hA).2
  refine (cl_true (law W args.toList ds p ⟨hA, ⟨base, fun j t v hj hv => hval j t v (by simpa using hj) (by simpa using hv)⟩, hsz, hlt⟩)).mono fun e W' ⟨he, hb⟩ => ?_
  subst he
  refine ⟨_, rfl, ds, [], p ++ [], [], p, [], hW', ?_, ?_, ?_, hb.frame _, fun h => by cases h⟩
  · rw [List.append_nil, hs ds hlen, hres]
    exact trodAll_cons_mk (shut_bool hbool _) trodAll_mk0
  · rw [List.append_nil, hs ds hlen]
    exact trodAll_below hlaid hb hrow hA hlt
  · rw [List.append_nil, hs ds hlen, hvars]; trivial

end Go.Al

namespace Go.Al
set_option linter.unusedVariables false
set_option linter.unusedSimpArgs false
set_option linter.unusedSectionVars false
open Go.ChangeShapes Go.WideShapes Go.ChangeAt Go.RowKit

structure Vw (P : Program) (t : TypeId) (α : Type) where
  rel : World → List Value → α → Prop
  keep : ∀ {w w' : World} {cs : List Value} {x : α}, rel w cs x → Fm (fun _ => False) w w' → rel w' cs x
  len : ∀ {w : World} {cs : List Value} {x : α}, rel w cs x → cs.length = P.cellsOf t
  opens : ∀ {H : Type} {enc : TypeId × Value → H} {w : World} {base : Nat} {spare : Nat → Bool} {held : Bool} {fuel : Nat} {cs : List Value} {y : DataW H × List MemPlace},
    DataW.trod enc P w base spare held fuel t cs = some y → (∀ n ∈ y.1.weights P t, n ≤ reachBytes) → ∃ x, rel w cs x

def vInt {P : Program} {t : TypeId} (k : IntKind) (ht : P.underlying t = some (.int k)) (hc : P.cellsOf t = 1) : Vw P t Int where
  rel := fun _ cs x => cs = [.int k x] ∧ (Lit.int k x).wf = true
  keep := fun h _ => h
  len := fun h => by rw [h.1, hc]; rfl
  opens := fun h _ => by
    obtain ⟨n, h1, h2, h3⟩ := DataW.trod_int ht h
    exact ⟨n, h1, h3⟩
def vBool {P : Program} {t : TypeId} (ht : P.underlying t = some .bool) (hc : P.cellsOf t = 1) : Vw P t Bool where
  rel := fun _ cs x => cs = [.bool x]
  keep := fun h _ => h
  len := fun h => by rw [h, hc]; rfl
  opens := fun h _ => by
    obtain ⟨n, h1, h2⟩ := DataW.trod_bool ht h
    exact ⟨n, h1⟩
def vStr {P : Program} {t : TypeId} (ht : P.underlying t = some .string) (hc : P.cellsOf t = 1) : Vw P t Bs where
  rel := fun _ cs x => cs = [stv x] ∧ x.length ≤ reachBytes
  keep := fun h _ => h
  len := fun h => by rw [h.1, hc]; rfl
  opens := fun h hw => by
    obtain ⟨s, h1, h2, _⟩ := DataW.trod_string ht h
    subst h2
    refine ⟨s.data.toList, by rw [h1, stv, str_data], hw _ (by simp [DataW.weights])⟩

theorem weightsAll_mem {H : Type} {P : Program} {e : TypeId} {d : DataW H} {n : Nat} (hn : n ∈ d.weights P e) : ∀ {l : List (DataW H)}, d ∈ l → n ∈ DataW.weightsAll P e l
  | [], h => by cases h
  | x :: l, h => by
    rw [DataW.weightsAll, List.mem_append]
    rcases List.mem_cons.1 h with rfl | h
    · exact .inl hn
    · exact .inr (weightsAll_mem hn h)

structure SliceAs {P : Program} {e : TypeId} {α : Type} (A : Vw P e α) (w : World) (v : Value) (xs : List α) : Prop where
  ex : ∃ a cap, v = .slice a xs.length cap ∧ xs.length ≤ cap ∧ cap ≤ maxLen ∧ (a = none → xs.length = 0 ∧ cap = 0) ∧
    ∀ i x, xs[i]? = some x → ∃ ad cs', a = some ad ∧ A.rel w cs' x ∧ ∀ j, j < P.cellsOf e → w.cell? (ad.add (i * P.cellsOf e + j)) = cs'[j]?
  small : xs.length * P.bytesOf e ≤ reachBytes
theorem SliceAs.keep {P : Program} {e : TypeId} {α : Type} {A : Vw P e α} {w w' : World} {v : Value} {xs : List α} (h : SliceAs A w v xs) (hf : Fm (fun _ => False) w w') : SliceAs A w' v xs := by
  obtain ⟨⟨a, cap, h1, h2, h3, h4, h5⟩, hs⟩ := h
  refine ⟨⟨a, cap, h1, h2, h3, h4, fun i x hi => ?_⟩, hs⟩
  obtain ⟨ad, cs', g1, g2, g3⟩ := h5 i x hi
  refine ⟨ad, cs', g1, A.keep g2 hf, fun j hj => ?_⟩
  have := g3 j hj
  have hl := A.len g2
  rw [List.getElem?_eq_getElem (by omega)] at this ⊢
  exact hf.cell' this (fun e => e)
theorem SliceAs.lenV {P : Program} {e : TypeId} {α : Type} {A : Vw P e α} {w : World} {v : Value} {xs : List α} (h : SliceAs A w v xs) : lenV v = some (iv xs.length) := by
  obtain ⟨⟨a, cap, rfl, _⟩, _⟩ := h; rfl
theorem SliceAs.len {P : Program} {e : TypeId} {α : Type} {A : Vw P e α} {w : World} {v : Value} {xs : List α} (h : SliceAs A w v xs) : xs.length ≤ maxLen := by
  obtain ⟨⟨a, cap, rfl, h1, h2, _⟩, _⟩ := h; omega
theorem SliceAs.at {P : Program} {e : TypeId} {α : Type} {A : Vw P e α} {w : World} {v : Value} {xs : List α} (h : SliceAs A w v xs) {i : Nat} {x : α} (hi : xs[i]? = some x) {c : Nat} (hc : P.cellsOf e = c) (k : IntKind) :
    ∃ ad cs', ixV c v (.int k i) = some (.pointer (some ad)) ∧ A.rel w cs' x ∧ ∀ j, j < c → w.cell? (ad.add j) = cs'[j]? := by
  obtain ⟨⟨a, cap, rfl, h1, h2, h3, h4⟩, _⟩ := h
  obtain ⟨ad, cs', rfl, g2, g3⟩ := h4 i x hi
  have hlt := (List.getElem?_eq_some_iff.1 hi).1
  exact ⟨_, cs', ixV_at hlt, g2, fun j hj => by rw [add_add, ← hc]; exact g3 j (by rw [hc]; exact hj)⟩
theorem SliceAs.cells {P : Program} {e : TypeId} {α : Type} {A : Vw P e α} {w : World} {v : Value} {xs : List α} (h : SliceAs A w v xs) (hc : P.cellsOf e = 1) {f : α → Value} (hf : ∀ cs x, A.rel w cs x → cs = [f x]) : CellsAt w v xs.length 1 (xs.map f) := by
  obtain ⟨⟨a, cap, rfl, h1, h2, h3, h4⟩, _⟩ := h
  refine ⟨⟨a, cap, rfl, h1, h2, h3, fun j u hj => ?_⟩, by simp⟩
  rw [List.getElem?_map, Option.map_eq_some_iff] at hj
  obtain ⟨x, hx, rfl⟩ := hj
  obtain ⟨ad, cs', g1, g2, g3⟩ := h4 j x hx
  refine ⟨ad, g1, ?_⟩
  have := g3 0 (by omega)
  rw [hc, Nat.mul_one, Nat.add_zero, hf _ _ g2] at this
  exact this

def vSlice {P : Program} {t e : TypeId} {α : Type} (ht : P.underlying t = some (.slice e)) (hc : P.cellsOf t = 1) (A : Vw P e α) : Vw P t (List α) where
  rel := fun w cs xs => ∃ v, cs = [v] ∧ SliceAs A w v xs
  keep := fun ⟨v, h1, h2⟩ hf => ⟨v, h1, h2.keep hf⟩
  len := fun ⟨v, h1, _⟩ => by rw [h1, hc]; rfl
  opens := fun {H enc w base spare held fuel cs y} h hw => by
    rcases Deep.open_slice ht h with ⟨rfl, rfl⟩ | ⟨a, len, cap, m, n, D, Pl, rfl, _, hl, hcap, hm, rfl, hx⟩
    · exact ⟨[], _, rfl, ⟨none, 0, rfl, by simp, by simp [maxLen], fun _ => ⟨rfl, rfl⟩, fun i x hi => by simp at hi⟩, by simp⟩
    · have hlm : len ≤ m := by rw [hm]; split <;> omega
      have hwt : ∀ i, i < len → ∀ q ∈ (D i).weights P e, q ≤ reachBytes := fun i hi q hq => hw q (by
        simp only [DataW.weights, ht, List.mem_cons, List.mem_append]
        exact .inr (.inl (weightsAll_mem hq (List.mem_map.2 ⟨i, by simpa using hi, rfl⟩))))
      have hsm : len * P.bytesOf e ≤ reachBytes := by
        have := hw ((((List.range len).map D).length + ((List.range (m - len)).map fun j => D (len + j)).length) * P.bytesOf e) (by simp [DataW.weights, ht])
        refine Nat.le_trans (Nat.mul_le_mul_right _ ?_) this
        simp
      have key : ∀ i, i < len → ∃ x : α × List Value, A.rel w x.2 x.1 ∧ ∀ j, j < P.cellsOf e → w.cell? (a.add (i * P.cellsOf e + j)) = x.2[j]? := by
        intro i hi
        obtain ⟨cs', h1, h2⟩ := hx i (by omega)
        obtain ⟨_, hlen, hat⟩ := World.cells?_some h1
        obtain ⟨x, hxr⟩ := A.opens h2 (hwt i hi)
        exact ⟨(x, cs'), hxr, fun j hj => by rw [← add_add, hat j hj]⟩
      refine ⟨List.ofFn (n := len) (fun i => (Classical.choose (key i i.2)).1), _, rfl, ⟨some a, cap, by simp, by simpa using hl, hcap, fun e => by simp at e, fun i x hi => ?_⟩, by simpa using hsm⟩
      rw [List.getElem?_ofFn] at hi
      split at hi
      · rename_i hi1
        simp only [Option.some.injEq] at hi
        subst hi
        have hk := Classical.choose_spec (key i hi1)
        exact ⟨a, _, rfl, hk.1, hk.2⟩
      · cases hi

structure Fv (P : Program) (fs : List Field) (o : Nat) (α : Type) where
  c : Nat
  rel : World → List Value → α → Prop
  keep : ∀ {w w' : World} {cs : List Value} {x : α}, rel w cs x → Fm (fun _ => False) w w' → rel w' cs x
  len : ∀ {w : World} {cs : List Value} {x : α}, rel w cs x → cs.length = c
  opens : ∀ {H : Type} {enc : TypeId × Value → H} {w : World} {base : Nat} {spare : Nat → Bool} {held : Bool} {n : Nat} {cs0 : List Value} {ys : List (DataW H × List MemPlace)},
    (∀ (i : Nat) (f : Field), fs[i]? = some f → DataW.trod enc P w base spare held n f.type ((cs0.drop f.offset).take (P.cellsOf f.type)) = ys[i]?) → ys.length = fs.length →
    (∀ (i : Nat) (f : Field) (y : DataW H × List MemPlace), fs[i]? = some f → ys[i]? = some y → ∀ n ∈ y.1.weights P f.type, n ≤ reachBytes) → ∃ x, rel w ((cs0.drop o).take c) x
def fvNil {P : Program} {o : Nat} : Fv P [] o Unit where
  c := 0
  rel := fun _ cs _ => cs = []
  keep := fun h _ => h
  len := fun h => by rw [h]; rfl
  opens := fun _ _ _ => ⟨(), by simp⟩
def fvCons {P : Program} {f : Field} {fs : List Field} {o : Nat} {α β : Type} (hf : f.offset = o) (n : Nat) (hn : P.cellsOf f.type = n) (A : Vw P f.type α) (B : Fv P fs (o + n) β) : Fv P (f :: fs) o (α × β) where
  c := n + B.c
  rel := fun w cs x => ∃ c1 c2, cs = c1 ++ c2 ∧ A.rel w c1 x.1 ∧ B.rel w c2 x.2
  keep := fun ⟨c1, c2, h1, h2, h3⟩ hf => ⟨c1, c2, h1, A.keep h2 hf, B.keep h3 hf⟩
  len := fun ⟨c1, c2, h1, h2, h3⟩ => by rw [h1, List.length_append, A.len h2, B.len h3, hn]
  opens := fun {H enc w base spare held m cs0 ys} h hl hw => by
    have h0 := h 0 f rfl
    cases ys with
    | nil => simp at hl
    | cons y ys =>
      obtain ⟨x, hx⟩ := A.opens h0 (hw 0 f y rfl rfl)
      obtain ⟨x', hx'⟩ := B.opens (enc := enc) (w := w) (base := base) (spare := spare) (held := held) (n := m) (cs0 := cs0) (ys := ys) (fun i g hg => by have := h (i + 1) g (by simpa using hg); simpa using this) (by simpa using hl) (fun i g y' hg hy' => hw (i + 1) g y' (by simpa using hg) (by simpa using hy'))
      refine ⟨(x, x'), _, _, ?_, hx, hx'⟩
      rw [hf, hn]
      rw [List.take_add, List.drop_drop]

def vStruct {P : Program} {t : TypeId} {fs : Array Field} {α : Type} (ht : P.underlying t = some (.struct fs)) (F : Fv P fs.toList 0 α) (hc : P.cellsOf t = F.c) : Vw P t α where
  rel := F.rel
  keep := F.keep
  len := fun h => by rw [hc]; exact F.len h
  opens := fun {H enc w base spare held fuel cs y} h hw => by
    obtain ⟨xs, n, _, rfl, hl, hlen, hf⟩ := DataW.trod_struct ht h
    obtain ⟨x, hx⟩ := F.opens (enc := enc) (w := w) (base := base) (spare := spare) (held := held) (n := n) (cs0 := cs) (ys := xs) (fun i f hi => hf i f (by simpa using hi)) (by simpa using hlen) (fun i f y hi hy q hq => hw q (by
      simp only [DataW.weights, ht]
      exact DataW.weights_mem_each (j := i) (t := f.type) (d := y.1) (by rw [List.getElem?_map, hi]; rfl) (by rw [List.getElem?_map, hy]; rfl) q hq))
    refine ⟨x, ?_⟩
    have : (cs.drop 0).take F.c = cs := by rw [List.drop_zero, List.take_of_length_le (by omega)]
    rw [this] at hx; exact hx

theorem LawIn.arg {H : Type} {enc : TypeId × Value → H} {P : Program} {ts : List TypeId} {W : World} {args : List Value} {ds : List (DataW H)} {p : List MemPlace} (h : LawIn enc P ts W args ds p) {j : Nat} {t : TypeId} (ht : ts[j]? = some t) {α : Type} (A : Vw P t α) :
    ∃ v x base, args[j]? = some v ∧ A.rel W v.cells.toList x ∧ Value.okWide P W .any base t v := by
  obtain ⟨hA, ⟨base, hval⟩, hsz, -⟩ := h
  have hw : ∀ (j : Nat) (t : TypeId) (d : DataW H), ts[j]? = some t → ds[j]? = some d → ∀ n ∈ d.weights P t, n ≤ reachBytes := fun j t d h1 h2 n hn => by
    have := List.all_eq_true.1 hsz _ (DataW.weights_mem_each h1 h2 n hn)
    simpa using this
  have key : ∀ (ts : List TypeId) (vs : List Value) (ds : List (DataW H)) (p : List MemPlace), DataW.TrodAll enc P W 0 (fun _ => true) true ts vs ds p → ∀ (j : Nat) (t : TypeId), ts[j]? = some t → ∃ (v : Value) (d : DataW H) (q : List MemPlace), vs[j]? = some v ∧ ds[j]? = some d ∧ DataW.Trod enc P W 0 (fun _ => true) true t v d q := by
    intro ts
    induction ts with
    | nil => intro vs ds p _ j t ht; simp at ht
    | cons t0 ts ih =>
      intro vs ds p hA j t ht
      obtain ⟨v0, vs0, d0, ds0, p0, q0, rfl, rfl, rfl, h0, r0⟩ := trodAll_cons hA
      cases j with
      | zero => simp at ht; subst ht; exact ⟨v0, d0, p0, rfl, rfl, h0⟩
      | succ j => obtain ⟨v, d, q, h1, h2, h3⟩ := ih vs0 ds0 q0 r0 j t (by simpa using ht); exact ⟨v, d, q, by simpa using h1, by simpa using h2, h3⟩
  obtain ⟨v, d, q, h1, h2, fuel, h3⟩ := key ts args ds p hA j t ht
  obtain ⟨x, hx⟩ := A.opens h3 (hw j t d ht h2)
  exact ⟨v, x, base, h1, hx, hval j t v ht h1⟩
theorem LawIn.len {H : Type} {enc : TypeId × Value → H} {P : Program} {ts : List TypeId} {W : World} {args : List Value} {ds : List (DataW H)} {p : List MemPlace} (h : LawIn enc P ts W args ds p) : args.length = ts.length := (trodAll_length h.trod).1
theorem arg_int {P : Program} {W : World} {base : Nat} {t : TypeId} {k : IntKind} {ht : P.underlying t = some (.int k)} {hc : P.cellsOf t = 1} {v : Value} {x : Int} (h : (vInt k ht hc).rel W v.cells.toList x) (hv : Value.okWide P W .any base t v) : v = .int k x ∧ (Lit.int k x).wf = true := by
  obtain ⟨n, rfl⟩ := okWide_int ht hv
  obtain ⟨h1, h2⟩ := h
  simp [Value.cells] at h1
  exact ⟨by rw [h1], h2⟩
theorem arg_bool {P : Program} {W : World} {base : Nat} {t : TypeId} {ht : P.underlying t = some .bool} {hc : P.cellsOf t = 1} {v : Value} {x : Bool} (h : (vBool ht hc).rel W v.cells.toList x) (hv : Value.okWide P W .any base t v) : v = .bool x := by
  obtain ⟨n, rfl⟩ := okWide_bool ht hv
  have h1 : (Value.bool n).cells.toList = [.bool x] := h
  simp [Value.cells] at h1
  rw [h1]
theorem arg_str {P : Program} {W : World} {base : Nat} {t : TypeId} {ht : P.underlying t = some .string} {hc : P.cellsOf t = 1} {v : Value} {x : Bs} (h : (vStr ht hc).rel W v.cells.toList x) (hv : Value.okWide P W .any base t v) : v = stv x ∧ x.length ≤ reachBytes := by
  obtain ⟨n, rfl⟩ := okWide_string ht hv
  obtain ⟨h1, h2⟩ := h
  simp [Value.cells] at h1
  exact ⟨by rw [stv, h1], h2⟩
theorem arg_slice {P : Program} {W : World} {base : Nat} {t e : TypeId} {α : Type} {ht : P.underlying t = some (.slice e)} {hc : P.cellsOf t = 1} {A : Vw P e α} {v : Value} {x : List α} (h : (vSlice ht hc A).rel W v.cells.toList x) (hv : Value.okWide P W .any base t v) : SliceAs A W v x := by
  obtain ⟨a, n, c, rfl⟩ := okWide_slice ht hv
  obtain ⟨u, h1, h2⟩ := h
  simp [Value.cells] at h1
  rw [h1]; exact h2
theorem arg_struct {P : Program} {W : World} {base : Nat} {t : TypeId} {fs : Array Field} {α : Type} {ht : P.underlying t = some (.struct fs)} {F : Fv P fs.toList 0 α} {hc : P.cellsOf t = F.c} {v : Value} {x : α} (h : (vStruct ht F hc).rel W v.cells.toList x) (hv : Value.okWide P W .any base t v) : ∃ cs, v = .agg cs ∧ F.rel W cs.toList x := by
  obtain ⟨cs, rfl, _⟩ := okWide_struct ht hv
  exact ⟨cs, rfl, h⟩

end Go.Al

namespace Go.Al
set_option linter.unusedVariables false
set_option linter.unusedSimpArgs false
set_option linter.unusedSectionVars false

theorem own_alloc {w : World} {e : TypeId} {l : List Value} (hl : l.length ≤ maxLen) {base : Nat} (hb : base ≤ w.heap.size) : (w.alloc (.cells l.toArray e)).ownsRow base e 1 (.slice (some ⟨w.heap.size, 0, none⟩) l.length l.length) l.length l :=
  ⟨by simp, .inr ⟨w.heap.size, l.length, l.toArray, rfl, hb, alloc_new _ _, Nat.le_refl _, hl, by simp, by simp⟩⟩
theorem own_neB {w : World} {base : Nat} {e t : TypeId} {sz : Nat} {v : Value} {n : Nat} {xs : List Value} {x : Nat} {cs : Array Value} {fz : Nat × Nat} (ho : w.ownsRow base e sz v n xs) (hx : w.heap[x]? = some (.cells cs t fz)) (hne : e ≠ t) : v.ownBlock ≠ some x := by
  intro hk
  rcases ho.2 with ⟨rfl, _⟩ | ⟨g, c, cur, rfl, _, hg, _⟩
  · simp [Value.ownBlock] at hk
  simp [Value.ownBlock] at hk
  subst hk
  rw [hx] at hg
  cases hg
  exact hne rfl
theorem append_srcO {P : Program} {t e : TypeId} {sz bytes : Nat} (E : ElemT P t e sz bytes) (hsz : 0 < sz) {w : World} {base : Nat} {v u : Value} {n m : Nat} {xs news : List Value} (h : w.ownsRow base e sz v n xs) (hu : CellsAt w u m sz news) (h1 : ∀ u ∈ news, u.oneCell' = true) (ty : TypeId)
    (h63 : n + m ≤ maxLen) (hbytes : (n + m) * bytes ≤ 140737488355328) (hbase : base ≤ w.heap.size) :
    ∃ v' w', (Builtin.append_ #[t, t] ty #[v, u]).run P w = .ok v' w' ∧ w'.ownsRow base e sz v' (n + m) (xs ++ news) ∧ Fm (fun b => v.ownBlock = some b) w w' := by
  obtain ⟨i, z, hi, hz, hs, hb, hzs⟩ := E.info
  obtain ⟨⟨a, c, rfl, hn1, hn2, h3, h4⟩, hl⟩ := hu
  cases a with
  | some ad =>
    obtain ⟨v', w', hr, ho, hg, hn⟩ := run_append_own (P := P) w base t ty e i z sz bytes E.sl hi hz hs hb hzs hsz v n xs h ad m c news hl (fun j x hj => by obtain ⟨ad', e, hc⟩ := h4 j x hj; cases e; exact hc) h1 h63 hbytes hbase
    exact ⟨v', w', hr, ho, Fm.grown (S := fun b => v.ownBlock = some b) hg (fun k hk _ => hk)⟩
  | none =>
    obtain ⟨rfl, rfl⟩ := h3 rfl
    rw [Nat.zero_mul] at hl
    obtain rfl := List.eq_nil_of_length_eq_zero hl
    exact ⟨v, w, run_append_owned_none (P := P) (w := w) base t ty e i sz E.sl hi v n xs h, by simpa using h, Fm.refl _ _⟩

end Go.Al

namespace Go.Al
set_option linter.unusedVariables false
set_option linter.unusedSimpArgs false
set_option linter.unusedSectionVars false
open Go.ChangeShapes Go.WideShapes Go.ChangeAt Go.RowKit

theorem cellsV_keep {S : Nat → Prop} {w w' : World} {ad : Addr} {n : Nat} {x : Value} (h : cellsV w ad n = some x) (hf : Fm S w w') (hs : ¬ S ad.block) : cellsV w' ad n = some x := by
  have key : ∀ (n i : Nat) (l : List Value), cellsAt w ad i n = some l → cellsAt w' ad i n = some l := by
    intro n
    induction n with
    | zero => intro i l hl; simpa [cellsAt] using hl
    | succ n ih =>
      intro i l hl
      simp only [cellsAt] at hl ⊢
      cases hc : w.cell? (ad.add i) with
      | none => rw [hc] at hl; cases hl
      | some v =>
        rw [hc] at hl
        rw [hf.cell' hc (by rw [add_block]; exact hs)]
        cases hr : cellsAt w ad (i + 1) n with
        | none => rw [hr] at hl; cases hl
        | some l' =>
          rw [hr] at hl
          rw [ih _ _ hr]; exact hl
  unfold cellsV at h ⊢
  cases hc : cellsAt w ad 0 n with
  | none => rw [hc] at h; cases h
  | some l => rw [hc] at h; rw [key _ _ _ hc]; exact h
theorem SliceAs.ld {P : Program} {e : TypeId} {α : Type} {A : Vw P e α} {w : World} {v : Value} {xs : List α} (h : SliceAs A w v xs) {i : Nat} {x : α} (hi : xs[i]? = some x) {c : Nat} (hc : P.cellsOf e = c) (k : IntKind) :
    ∃ ad cs', ixV c v (.int k i) = some (.pointer (some ad)) ∧ A.rel w cs' x ∧ cellsV w ad c = some (.agg cs'.toArray) ∧ ∀ j, j < c → w.cell? (ad.add j) = cs'[j]? := by
  obtain ⟨ad, cs', h1, h2, h3⟩ := h.at hi hc k
  have hlen : cs'.length = c := by rw [← hc]; exact A.len h2
  refine ⟨ad, cs', h1, h2, ?_, h3⟩
  have key : ∀ (n j : Nat), j + n ≤ c → cellsAt w ad j n = some ((cs'.drop j).take n) := by
    intro n
    induction n with
    | zero => intro j hj; simp [cellsAt]
    | succ n ih =>
      intro j hj
      have hlt : j < cs'.length := by omega
      have hcell := h3 j (by omega)
      rw [List.getElem?_eq_getElem hlt] at hcell
      simp only [cellsAt, hcell, ih (j + 1) (by omega), Option.map_some]
      rw [List.drop_eq_getElem_cons hlt, List.take_succ_cons]
  unfold cellsV
  rw [key c 0 (by omega)]
  simp only [List.drop_zero, Option.map_some]
  rw [List.take_of_length_le (by omega)]
end Go.Al

namespace Go.Proofs.YthbngnlmgplijaaGreatDoor
open Go.Al Go.Proofs
set_option linter.unusedVariables false
set_option linter.unusedSimpArgs false
set_option linter.unusedSectionVars false
set_option maxRecDepth 100000

abbrev pv (b : Nat) : Value := .pointer (some ⟨b, 0, none⟩)
theorem Fmf {a b c : World} (h : Fm (fun _ => False) a b) (k : Fm (fun _ => False) b c) : Fm (fun _ => False) a c := h.trans k (fun _ _ e => e) (fun _ _ e => e)
theorem Fm.own {S : Nat → Prop} {a b c : World} (h : Fm (fun _ => False) a b) (k : Fm S b c) (hS : ∀ x, S x → a.heap.size ≤ x) : Fm (fun _ => False) a c := h.trans k (fun _ _ e => e) (fun x hx e => by have := hS x e; omega)
abbrev In (n : Int) : Prop := -9223372036854775808 ≤ n ∧ n ≤ 9223372036854775807
theorem B38 : ByteT Tryz.prog 123 5 9 := byteT_of Tryz.underlying123 Tryz.underlying5 Tryz.underlying9 (by kernel_rfl)

theorem half_u32 {c : Nat} (hc : c < 2 ^ 32) : ∃ x y : Value, unV .neg (uv (c &&& 1)) = some x ∧ binV (TypeDesc.int IntKind.u32) .and (Value.int IntKind.u32 3988292384) x = some y ∧ binV (TypeDesc.int IntKind.u32) .xor (uv (c / 2)) y = some (uv (crcS c)) := by
  rw [Nat.and_one_is_mod]
  unfold crcS
  have h2 : c % 2 = 0 ∨ c % 2 = 1 := by omega
  rcases h2 with h2 | h2
  · rw [h2]
    exact ⟨uv 0, uv 0, rfl, rfl, by rw [xor_u32 _ (by omega) (by omega)]; rfl⟩
  · rw [h2, if_pos rfl]
    exact ⟨uv 4294967295, uv 3988292384, rfl, rfl, by rw [xor_u32 _ (by omega) (by omega)]⟩
theorem crcT_snoc : ∀ (k c : Nat), crcT (k + 1) c = crcS (crcT k c)
  | 0, c => rfl
  | k + 1, c => by rw [crcT, crcT_snoc k]; rfl
theorem turned_spec (w : World) {c : Nat} (hc : c < 2 ^ 32) : Cl Tryz.prog 147 [uv c] w fun r w' => r = uv (crcT 8 c) ∧ w' = w := by
  refine c147 ?_; unfold T147
  refine ⟨fun vs w2 => ∃ i : Nat, vs = [uv (crcT i c), iv i] ∧ i ≤ 8 ∧ w2 = w, fun vs _ => (8 - nth vs 1).toNat, ⟨0, rfl, by omega, rfl⟩, ?_⟩
  rintro _ w2 cv ivv ⟨i, hvs, hi, rfl⟩
  cases hvs
  have hl := crcT_lt i hc
  by_cases hlt : i < 8
  · have e1 : decide ((i : Int) < 8) = true := by rw [decide_eq_true_eq]; omega
    have e2 : IntKind.i64.wrap ((i : Int) + 1) = ((i + 1 : Nat) : Int) := by rw [wrap_id] <;> omega
    obtain ⟨x, y, h1, h2, h3⟩ := half_u32 hl
    have s1 : binV (TypeDesc.int IntKind.u32) .shr (uv (crcT i c)) (Value.int IntKind.u64 1) = some (uv (crcT i c / 2)) := shr_u32 _ (k := 1) (by omega) .u64 rfl
    have a1 : binV (TypeDesc.int IntKind.u32) .and (uv (crcT i c)) (Value.int IntKind.u32 1) = some (uv (crcT i c &&& 1)) := and_u32 _ hl (b := 1) (by omega)
    simp only [RS0, RS1, RS2, RS3, RS4, RS5, e1, s1, a1, h1, h2, h3, e2]
    exact ⟨⟨i + 1, by rw [crcT_snoc], by omega, (by trivial)⟩, by simp only [nth_1]; omega⟩
  · obtain rfl : i = 8 := by omega
    have e1 : decide (((8 : Nat) : Int) < 8) = false := by simp
    simp only [RS0, RS1, RS2, RS3, RS4, RS5, e1]
    exact ⟨(by trivial), (by trivial)⟩
theorem crcF_take {l : Bs} {i : Nat} {b : UInt8} (c : Nat) (h : l[i]? = some b) : crcF c (l.take (i + 1)) = crcB (crcF c (l.take i)) b := by
  unfold crcF
  rw [List.take_add_one, h, List.foldl_append]; rfl
theorem sum_spec (w : World) (l : Bs) (hl : l.length ≤ 9223372036854775806) : Cl Tryz.prog 80 [stv l] w fun r w' => r = uv (crc l) ∧ w' = w := by
  refine c80 ?_; unfold T80
  simp only [RS0, RS1, RS2, RS3, RS4, RS5, str_size]
  refine ⟨fun vs w2 => ∃ i : Nat, vs = [uv (crcF 4294967295 (l.take i)), iv i] ∧ i ≤ l.length ∧ w2 = w, fun vs _ => (l.length - nth vs 1).toNat, ⟨0, rfl, by omega, rfl⟩, ?_⟩
  rintro _ w2 cv ivv ⟨i, hvs, hi, rfl⟩
  cases hvs
  have hc := crcF_lt (l.take i) (c := 4294967295) (by omega)
  by_cases hlt : i < l.length
  · have e1 : decide ((i : Int) < (l.length : Int)) = true := by rw [decide_eq_true_eq]; omega
    have e2 : IntKind.i64.wrap ((i : Int) + 1) = ((i + 1 : Nat) : Int) := by rw [wrap_id] <;> omega
    have hx : l[i]? = some l[i] := List.getElem?_eq_getElem hlt
    generalize l[i] = b at hx
    have hst := crcF_take 4294967295 hx
    generalize crcF 4294967295 (l.take i) = c at hc hst
    rw [crcB_table] at hst
    have hb := b.toNat_lt
    have s1 : binV (TypeDesc.int IntKind.u32) .shr (uv c) (Value.int IntKind.u64 8) = some (uv (c / 256)) := shr_u32 _ (k := 8) (by omega) .u64 rfl
    have a1 : binV (TypeDesc.int IntKind.u32) .and (uv c) (Value.int IntKind.u32 255) = some (uv (c % 256)) := by
      have := and_u32 (TypeDesc.int IntKind.u32) hc (b := 255) (by omega)
      rw [show c &&& 255 = c % 256 from Nat.and_two_pow_sub_one_eq_mod c 8] at this; exact this
    have q1 : IntKind.u32.wrap (b.toNat : Int) = (b.toNat : Int) := wrap_u32 (by omega)
    have x1 := xor_u32 (TypeDesc.int IntKind.u32) (a := c % 256) (b := b.toNat) (by omega) (by omega)
    have hx2 : c % 256 ^^^ b.toNat < 2 ^ 32 := Nat.xor_lt_two_pow (by omega) (by omega)
    simp only [RS0, RS1, RS2, RS3, RS4, RS5, e1, s1, a1, ixS_str hx, cvI_int, q1, x1]
    refine (turned_spec w2 hx2).mono ?_
    rintro _ _ ⟨rfl, rfl⟩
    have x2 := xor_u32 (TypeDesc.int IntKind.u32) (a := c / 256) (b := crcT 8 (c % 256 ^^^ b.toNat)) (by omega) (crcT_lt 8 hx2)
    simp only [RS0, RS1, RS2, RS3, RS4, RS5, x2, e2]
    exact ⟨⟨i + 1, by rw [hst], by omega, (by trivial)⟩, by simp only [nth_1]; omega⟩
  · have hie : i = l.length := by omega
    subst hie
    have e1 : decide (((l.length : Nat) : Int) < (l.length : Int)) = false := by simp
    rw [List.take_length] at hc ⊢
    simp only [RS0, RS1, RS2, RS3, RS4, RS5, e1, not_u32 hc]
    exact ⟨(by trivial), (by trivial)⟩
theorem rsum_spec (w : World) (l : Bs) (hl : l.length ≤ 9223372036854775806) : Cl Tryz.prog 84 [stv l] w fun r w' => r = uv (crc l) ∧ w' = w := by
  refine c84 ?_; unfold T84
  refine ⟨fun vs w2 => ∃ i : Nat, vs = [uv (crcF 4294967295 (l.take i)), iv i] ∧ i ≤ l.length ∧ w2 = w, fun vs _ => (l.length - nth vs 1).toNat, ⟨0, rfl, by omega, rfl⟩, ?_⟩
  rintro _ w2 cv ivv ⟨i, hvs, hi, rfl⟩
  cases hvs
  have hc := crcF_lt (l.take i) (c := 4294967295) (by omega)
  by_cases hlt : i < l.length
  · have e1 : decide ((i : Int) < (l.length : Int)) = true := by rw [decide_eq_true_eq]; omega
    have e2 : IntKind.i64.wrap ((i : Int) + 1) = ((i + 1 : Nat) : Int) := by rw [wrap_id] <;> omega
    have hx : l[i]? = some l[i] := List.getElem?_eq_getElem hlt
    generalize l[i] = b at hx
    have hst := crcF_take 4294967295 hx
    generalize crcF 4294967295 (l.take i) = c at hc hst
    have hb := b.toNat_lt
    have q1 : IntKind.u32.wrap (b.toNat : Int) = (b.toNat : Int) := wrap_u32 (by omega)
    have x1 := xor_u32 (TypeDesc.int IntKind.u32) (a := c) (b := b.toNat) (by omega) (by omega)
    have hx2 := xor_byte hc b
    simp only [RS0, RS1, RS2, RS3, RS4, RS5, str_size, e1, ixS_str hx, cvI_int, q1, x1]
    refine ⟨fun vs w3 => ∃ j : Nat, vs = [uv (crcT j (c ^^^ b.toNat)), iv j] ∧ j ≤ 8 ∧ w3 = w2, fun vs _ => (8 - nth vs 1).toNat, ⟨0, rfl, by omega, rfl⟩, ?_⟩
    rintro _ w3 cv jv ⟨j, hvs, hj, rfl⟩
    cases hvs
    have hl2 := crcT_lt j hx2
    by_cases hj8 : j < 8
    · have f1 : decide ((j : Int) < 8) = true := by rw [decide_eq_true_eq]; omega
      have f2 : IntKind.i64.wrap ((j : Int) + 1) = ((j + 1 : Nat) : Int) := by rw [wrap_id] <;> omega
      have hsn := crcT_snoc j (c ^^^ b.toNat)
      generalize crcT j (c ^^^ b.toNat) = d at hl2 hsn
      simp only [RS0, RS1, RS2, RS3, RS4, RS5, f1]
      refine Jn_at (fun vs w4 => vs = [uv (crcS d)] ∧ w4 = w3) ?_ ?_
      · rintro _ w4 ⟨rfl, rfl⟩ _
        refine ⟨_, rfl, ?_⟩
        simp only [RS0, RS1, RS2, RS3, RS4, RS5, f2]
        exact ⟨⟨j + 1, by rw [hsn], by omega, (by trivial)⟩, by simp only [nth_1]; omega⟩
      · intro kk hkk
        unfold crcS at hkk
        have hd2 : d % 2 = 0 ∨ d % 2 = 1 := by omega
        simp only [RS0, RS1, RS2, RS3, RS4, RS5, rem_u32, quo_u32 _ hl2, beq_dec]
        rcases hd2 with h2 | h2
        · rw [if_neg (by omega), Nat.xor_zero] at hkk
          rw [show decide (((d % 2 : Nat) : Int) = 1) = false by rw [h2]; rfl]
          simp only [RS0, RS1, RS2, RS3, RS4, RS5]
          exact hkk _ _ ⟨rfl, rfl⟩
        · rw [if_pos h2] at hkk
          rw [show decide (((d % 2 : Nat) : Int) = 1) = true by rw [h2]; rfl]
          have x2 : binV (TypeDesc.int IntKind.u32) .xor (uv (d / 2)) (Value.int IntKind.u32 3988292384) = some (uv (d / 2 ^^^ 3988292384)) := xor_u32 _ (b := 3988292384) (by omega) (by omega)
          simp only [RS0, RS1, RS2, RS3, RS4, RS5, x2]
          exact hkk _ _ ⟨rfl, rfl⟩
    · obtain rfl : j = 8 := by omega
      have f1 : decide (((8 : Nat) : Int) < 8) = false := by simp
      simp only [RS0, RS1, RS2, RS3, RS4, RS5, f1, e2]
      exact ⟨⟨i + 1, by rw [hst]; rfl, by omega, (by trivial)⟩, by simp only [nth_1]; omega⟩
  · have hie : i = l.length := by omega
    subst hie
    have e1 : decide (((l.length : Nat) : Int) < (l.length : Int)) = false := by simp
    rw [List.take_length] at hc ⊢
    have x2 : binV (TypeDesc.int IntKind.u32) .xor (uv (crcF 4294967295 l)) (Value.int IntKind.u32 4294967295) = some (uv (crcF 4294967295 l ^^^ 4294967295)) := xor_u32 _ hc (b := 4294967295) (by omega)
    simp only [RS0, RS1, RS2, RS3, RS4, RS5, str_size, e1, x2]
    exact ⟨(by trivial), (by trivial)⟩

/-! ### Numbers as bytes -/
theorem take_set_one (l : Bs) {i : Nat} {b : UInt8} (h : l[i]? = some b) (n : Nat) (hn : i < n) : (l.take i ++ List.replicate (n - i) (0 : UInt8)).set i b = l.take (i + 1) ++ List.replicate (n - (i + 1)) (0 : UInt8) := by
  have hl := (List.getElem?_eq_some_iff.1 h).1
  rw [List.set_append_right _ _ (by rw [List.length_take]; omega), List.length_take, Nat.min_eq_left (by omega), Nat.sub_self]
  rw [show n - i = (n - (i + 1)) + 1 by omega, List.replicate_succ, List.set_cons_zero, List.take_add_one, h]
  simp
theorem big_spec (w : World) {n : Int} (hn : In n) (k : Int) : Cl Tryz.prog 115 [iv n, iv k] w fun r w' => r = stv (bigB n k) ∧ Fm (fun _ => False) w w' := by
  refine c115 ?_; unfold T115
  unfold bigB
  cases h1 : decide (k < 1) with
  | true =>
    simp only [RS0, RS1, RS2, RS3, RS4, RS5, h1, Bool.true_or, cond_true]
    exact ⟨(by trivial), Fm.refl _ _⟩
  | false =>
  cases h2 : decide (8 < k) with
  | true =>
    simp only [RS0, RS1, RS2, RS3, RS4, RS5, h1, h2, Bool.true_or, Bool.or_true, cond_true]
    exact ⟨(by trivial), Fm.refl _ _⟩
  | false =>
  cases h3 : decide (n < 0) with
  | true =>
    simp only [RS0, RS1, RS2, RS3, RS4, RS5, h1, h2, h3, Bool.true_or, Bool.or_true, cond_true]
    exact ⟨(by trivial), Fm.refl _ _⟩
  | false =>
  rw [decide_eq_false_iff_not] at h1 h2 h3
  obtain ⟨x, rfl⟩ := Int.eq_ofNat_of_zero_le (show 0 ≤ n by omega)
  obtain ⟨m, rfl⟩ := Int.eq_ofNat_of_zero_le (show 0 ≤ k by omega)
  have g1 : decide ((Int.ofNat m) < 1) = false := by rw [decide_eq_false_iff_not]; exact h1
  have g2 : decide (8 < (Int.ofNat m)) = false := by rw [decide_eq_false_iff_not]; exact h2
  have g3 : decide ((Int.ofNat x) < 0) = false := by rw [decide_eq_false_iff_not]; exact h3
  have hm : 1 ≤ m ∧ m ≤ 8 := by omega
  have hx : x ≤ 9223372036854775807 := by have := hn.2; omega
  have g1' : decide ((m : Int) < 1) = false := g1
  have g2' : decide (8 < (m : Int)) = false := g2
  have g3' : decide ((x : Int) < 0) = false := g3
  simp only [RS0, RS1, RS2, RS3, RS4, RS5, g1', g2', g3', Bool.or_false, cond_false, Int.toNat_natCast]
  refine RunS_ok (BRow.make B38 w m (by omega)) ?_
  have hb1 := alloc_new w (.cells (bc (List.replicate m 0)).toArray 5)
  have hf1 := Fm.alloc (fun _ => False) w (.cells (bc (List.replicate m 0)).toArray 5)
  have hg := Nat.le_refl w.heap.size
  generalize hge : w.heap.size = g at hb1
  generalize w.alloc (.cells (bc (List.replicate m 0)).toArray 5) = w1 at hb1 hf1
  replace hb1 : BRow w1 g 5 (List.replicate m 0) := hb1
  simp only [RS0, RS1, RS2, RS3, RS4, RS5]
  refine ⟨fun vs w2 => ∃ i : Nat, vs = [iv i] ∧ i ≤ m ∧ BRow w2 g 5 ((beN m x).take i ++ List.replicate (m - i) 0) ∧ Fm (fun _ => False) w w2, fun vs _ => (m - nth vs 0).toNat, ⟨0, rfl, by omega, by simpa using hb1, hf1⟩, ?_⟩
  rintro _ w2 ivv ⟨i, hvs, hi, hb2, hf2⟩
  cases hvs
  by_cases hlt : i < m
  · have e1 : decide ((i : Int) < (m : Int)) = true := by rw [decide_eq_true_eq]; omega
    have e2 : IntKind.i64.wrap ((i : Int) + 1) = ((i + 1 : Nat) : Int) := by rw [wrap_id] <;> omega
    have e3 : IntKind.i64.wrap ((m : Int) - 1) = ((m - 1 : Nat) : Int) := by rw [wrap_id] <;> omega
    have e4 : IntKind.i64.wrap (((m - 1 : Nat) : Int) - i) = ((m - 1 - i : Nat) : Int) := by rw [wrap_id] <;> omega
    have e5 : IntKind.i64.wrap (8 * ((m - 1 - i : Nat) : Int)) = ((8 * (m - 1 - i) : Nat) : Int) := by rw [wrap_id] <;> omega
    have e6 := shr_nat x (8 * (m - 1 - i)) (by omega) (TypeDesc.int IntKind.i64) .i64
    have hget := beN_get m x i hlt
    have hpw : x / 2 ^ (8 * (m - 1 - i)) = x / 256 ^ (m - 1 - i) := by rw [Nat.pow_mul]
    have hval : IntKind.u8.wrap ((x / 2 ^ (8 * (m - 1 - i)) : Nat) : Int) = (((UInt8.ofNat (x / 256 ^ (m - 1 - i) % 256)).toNat : Nat) : Int) := by
      rw [wrap_u8_mod, ofN_toNat (by omega), hpw]
    generalize UInt8.ofNat (x / 256 ^ (m - 1 - i) % 256) = b at hget hval
    have hix : ixV 1 (.slice (some ⟨g, 0, none⟩) m m) (iv i) = some (.pointer (some ⟨g, i, none⟩)) := by rw [ixV_at hlt, add_none]; simp
    simp only [RS0, RS1, RS2, RS3, RS4, RS5, e1, e3, e4, e5, e6, cvI_int, hval, hix]
    refine BRow.put hb2 (b := b) (by simp [beN_len]; omega) ?_
    intro w3 hb3 hs3 hf3
    rw [take_set_one _ hget m hlt] at hb3
    simp only [RS0, RS1, RS2, RS3, RS4, RS5, e2]
    exact ⟨⟨i + 1, rfl, by omega, hb3, Fm.own hf2 hf3 (by rintro y rfl; omega)⟩, by simp only [nth_0]; omega⟩
  · obtain rfl : i = m := by omega
    have e1 : decide ((i : Int) < (i : Int)) = false := by simp
    have hfull : (beN i x).take i ++ List.replicate (i - i) (0 : UInt8) = beN i x := by rw [Nat.sub_self, List.take_of_length_le (by rw [beN_len]; exact Nat.le_refl _)]; simp
    rw [hfull] at hb2
    simp only [RS0, RS1, RS2, RS3, RS4, RS5, e1]
    refine RunS_ok (BRow.conv B38 hb2 (o := 0) (n := i) (by rw [beN_len]; omega) i) ?_
    refine ⟨?_, hf2⟩
    rw [List.drop_zero, List.take_of_length_le (by rw [beN_len]; exact Nat.le_refl _)]
theorem rbig_spec (w : World) {n : Int} (hn : In n) (k : Int) : Cl Tryz.prog 192 [iv n, iv k] w fun r w' => r = stv (bigB n k) ∧ Fm (fun _ => False) w w' := by
  refine c192 ?_; unfold T192
  unfold bigB
  cases h1 : decide (k < 1) with
  | true =>
    simp only [RS0, RS1, RS2, RS3, RS4, RS5, h1, Bool.true_or, cond_true]
    exact ⟨(by trivial), Fm.refl _ _⟩
  | false =>
  cases h2 : decide (8 < k) with
  | true =>
    simp only [RS0, RS1, RS2, RS3, RS4, RS5, h1, h2, Bool.true_or, Bool.or_true, cond_true]
    exact ⟨(by trivial), Fm.refl _ _⟩
  | false =>
  cases h3 : decide (n < 0) with
  | true =>
    simp only [RS0, RS1, RS2, RS3, RS4, RS5, h1, h2, h3, Bool.true_or, Bool.or_true, cond_true]
    exact ⟨(by trivial), Fm.refl _ _⟩
  | false =>
  rw [decide_eq_false_iff_not] at h1 h2 h3
  obtain ⟨x, rfl⟩ := Int.eq_ofNat_of_zero_le (show 0 ≤ n by omega)
  obtain ⟨m, rfl⟩ := Int.eq_ofNat_of_zero_le (show 0 ≤ k by omega)
  have g1' : decide ((m : Int) < 1) = false := by rw [decide_eq_false_iff_not]; exact h1
  have g2' : decide (8 < (m : Int)) = false := by rw [decide_eq_false_iff_not]; exact h2
  have g3' : decide ((x : Int) < 0) = false := by rw [decide_eq_false_iff_not]; exact h3
  have hm : 1 ≤ m ∧ m ≤ 8 := by omega
  have hx : x ≤ 9223372036854775807 := by have := hn.2; omega
  have e0 : IntKind.i64.wrap ((m : Int) - 1) = (m : Int) - 1 := by rw [wrap_id]; omega
  simp only [RS0, RS1, RS2, RS3, RS4, RS5, g1', g2', g3', Bool.or_false, cond_false, Int.toNat_natCast]
  refine RunS_ok (BRow.make B38 w m (by omega)) ?_
  have hb1 := alloc_new w (.cells (bc (List.replicate m 0)).toArray 5)
  have hf1 := Fm.alloc (fun _ => False) w (.cells (bc (List.replicate m 0)).toArray 5)
  have hg := Nat.le_refl w.heap.size
  generalize hge : w.heap.size = g at hb1
  generalize w.alloc (.cells (bc (List.replicate m 0)).toArray 5) = w1 at hb1 hf1
  replace hb1 : BRow w1 g 5 (List.replicate m 0) := hb1
  simp only [RS0, RS1, RS2, RS3, RS4, RS5, e0]
  refine ⟨fun vs w2 => ∃ i : Nat, vs = [iv (x / 256 ^ (m - i) : Nat), iv ((i : Int) - 1)] ∧ i ≤ m ∧ BRow w2 g 5 (List.replicate i 0 ++ beN (m - i) x) ∧ Fm (fun _ => False) w w2, fun vs _ => (nth vs 1 + 1).toNat, ⟨m, by rw [Nat.sub_self]; simp, by omega, by rw [Nat.sub_self]; simpa [beN] using hb1, hf1⟩, ?_⟩
  rintro _ w2 nv ivv ⟨i, hvs, hi, hb2, hf2⟩
  cases hvs
  by_cases hlt : 0 < i
  · have e1 : decide ((0 : Int) ≤ (i : Int) - 1) = true := by rw [decide_eq_true_eq]; omega
    have e2 : IntKind.i64.wrap ((i : Int) - 1 - 1) = ((i - 1 : Nat) : Int) - 1 := by rw [wrap_id] <;> omega
    have hpos : x / 256 ^ (m - i) ≤ x := Nat.div_le_self _ _
    have e3 := rem_nat (TypeDesc.int IntKind.i64) (n := x / 256 ^ (m - i)) (m := 256) (by omega) (by omega) (b := 256) rfl
    have e4 := quo_nat (TypeDesc.int IntKind.i64) (n := x / 256 ^ (m - i)) (m := 256) (by omega) (by omega) (b := 256) rfl
    have hd : x / 256 ^ (m - i) / 256 = x / 256 ^ (m - (i - 1)) := by
      rw [Nat.div_div_eq_div_mul, ← Nat.pow_succ]
      congr 2; omega
    have hcast : ((i : Int) - 1) = ((i - 1 : Nat) : Int) := by omega
    have hix : ixV 1 (.slice (some ⟨g, 0, none⟩) m m) (iv ((i : Int) - 1)) = some (.pointer (some ⟨g, i - 1, none⟩)) := by
      rw [hcast]
      have := ixV_at (sz := 1) (a := ⟨g, 0, none⟩) (len := m) (cap := m) (k := .i64) (i := i - 1) (by omega)
      rw [this, add_none]; simp
    have hval : IntKind.u8.wrap ((x / 256 ^ (m - i) % 256 : Nat) : Int) = (((UInt8.ofNat (x / 256 ^ (m - i) % 256)).toNat : Nat) : Int) := by
      rw [wrap_u8_mod, ofN_toNat (by omega), Nat.mod_mod]
    have hbe : beN (m - (i - 1)) x = UInt8.ofNat (x / 256 ^ (m - i) % 256) :: beN (m - i) x := by
      have key : ∀ (k n : Nat), beN (k + 1) n = UInt8.ofNat (n / 256 ^ k % 256) :: beN k n := by
        intro k
        induction k with
        | zero => intro n; simp [beN]
        | succ k ih =>
          intro n
          rw [beN, ih, List.cons_append, beN]
          congr 3
          rw [Nat.div_div_eq_div_mul, ← Nat.pow_succ']
      rw [show m - (i - 1) = (m - i) + 1 by omega]; exact key _ _
    simp only [RS0, RS1, RS2, RS3, RS4, RS5, e1, e3, cvI_int, hval, hix]
    refine BRow.put hb2 (by simp [beN_len]; omega) ?_
    intro w3 hb3 hs3 hf3
    have hset : (List.replicate i (0 : UInt8) ++ beN (m - i) x).set (i - 1) (UInt8.ofNat (x / 256 ^ (m - i) % 256)) = List.replicate (i - 1) 0 ++ beN (m - (i - 1)) x := by
      rw [hbe]
      have : List.replicate i (0 : UInt8) = List.replicate (i - 1) 0 ++ [0] := by
        rw [show i = (i - 1) + 1 by omega, List.replicate_succ']; simp
      rw [this, List.append_assoc, List.set_append_right _ _ (by simp)]
      simp
    rw [hset] at hb3
    simp only [RS0, RS1, RS2, RS3, RS4, RS5, e4, hd, e2]
    exact ⟨⟨i - 1, rfl, by omega, hb3, Fm.own hf2 hf3 (by rintro y rfl; omega)⟩, by simp only [nth_1]; omega⟩
  · obtain rfl : i = 0 := by omega
    have e1 : decide ((0 : Int) ≤ ((0 : Nat) : Int) - 1) = false := by decide
    rw [Nat.sub_zero] at hb2
    replace hb2 : BRow w2 g 5 (beN m x) := by simpa using hb2
    simp only [RS0, RS1, RS2, RS3, RS4, RS5, e1]
    refine RunS_ok (BRow.conv B38 hb2 (o := 0) (n := m) (by rw [beN_len]; omega) m) ?_
    refine ⟨?_, hf2⟩
    rw [List.drop_zero, List.take_of_length_le (by rw [beN_len]; exact Nat.le_refl _)]

theorem foldl_take' {α β : Type} (f : β → α → β) (b : β) {l : List α} {i : Nat} {x : α} (hi : l[i]? = some x) : (l.take (i + 1)).foldl f b = f ((l.take i).foldl f b) x := by
  rw [List.take_add_one, hi, List.foldl_append]; rfl
theorem of_spec (w : World) (l : Bs) (hl : l.length ≤ 9223372036854775806) : Cl Tryz.prog 79 [stv l] w fun r w' => r = iv (ofN l : Nat) ∧ w' = w := by
  refine c79 ?_; unfold T79
  simp only [RS0, RS1, RS2, RS3, RS4, RS5, str_size]
  refine ⟨fun vs w2 => ∃ i : Nat, vs = [qv (of64 (l.take i)), iv i] ∧ i ≤ l.length ∧ w2 = w, fun vs _ => (l.length - nth vs 1).toNat, ⟨0, rfl, by omega, rfl⟩, ?_⟩
  rintro _ w2 cv ivv ⟨i, hvs, hi, rfl⟩
  cases hvs
  have hc : of64 (l.take i) < 2 ^ 64 := by rw [of64_eq]; omega
  by_cases hlt : i < l.length
  · have e1 : decide ((i : Int) < (l.length : Int)) = true := by rw [decide_eq_true_eq]; omega
    have e2 : IntKind.i64.wrap ((i : Int) + 1) = ((i + 1 : Nat) : Int) := by rw [wrap_id] <;> omega
    have hx : l[i]? = some l[i] := List.getElem?_eq_getElem hlt
    generalize l[i] = b at hx
    have hst : of64 (l.take (i + 1)) = (of64 (l.take i) * 256 + b.toNat) % 2 ^ 64 := foldl_take' _ _ hx
    generalize of64 (l.take i) = c at hc hst
    have hb := b.toNat_lt
    have q1 : IntKind.u64.wrap (b.toNat : Int) = (b.toNat : Int) := wrap_u64 (by omega)
    have o1 := or_u64 (TypeDesc.int IntKind.u64) (a := c * 256 % 2 ^ 64) (b := b.toNat) (by omega) (by omega) (by omega)
    simp only [RS0, RS1, RS2, RS3, RS4, RS5, e1, shl_u64, ixS_str hx, cvI_int, q1, o1, e2]
    refine ⟨⟨i + 1, ?_, by omega, (by trivial)⟩, by simp only [nth_1]; omega⟩
    rw [hst]
    congr 3
    omega
  · have hie : i = l.length := by omega
    subst hie
    have e1 : decide (((l.length : Nat) : Int) < (l.length : Int)) = false := by simp
    rw [List.take_length] at hc ⊢
    have q1 : IntKind.i64.wrap ((of64 l % 2 ^ 63 : Nat) : Int) = ((of64 l % 2 ^ 63 : Nat) : Int) := wrap_nat (by omega)
    simp only [RS0, RS1, RS2, RS3, RS4, RS5, e1, top_u64 _ hc, cvI_int, q1]
    refine ⟨?_, (by trivial)⟩
    rw [ofN, of64_eq]
    congr 2
    omega
theorem rof_spec (w : World) (l : Bs) (hl : l.length ≤ 9223372036854775806) : Cl Tryz.prog 83 [stv l] w fun r w' => r = iv (ofN l : Nat) ∧ w' = w := by
  refine c83 ?_; unfold T83
  refine ⟨fun vs w2 => ∃ i : Nat, vs = [iv (ofN (l.take i) : Nat), iv i] ∧ i ≤ l.length ∧ w2 = w, fun vs _ => (l.length - nth vs 1).toNat, ⟨0, rfl, by omega, rfl⟩, ?_⟩
  rintro _ w2 cv ivv ⟨i, hvs, hi, rfl⟩
  cases hvs
  have hc : ofN (l.take i) < 2 ^ 63 := by unfold ofN; omega
  by_cases hlt : i < l.length
  · have e1 : decide ((i : Int) < (l.length : Int)) = true := by rw [decide_eq_true_eq]; omega
    have e2 : IntKind.i64.wrap ((i : Int) + 1) = ((i + 1 : Nat) : Int) := by rw [wrap_id] <;> omega
    have hx : l[i]? = some l[i] := List.getElem?_eq_getElem hlt
    generalize l[i] = b at hx
    have hst : ofB (l.take (i + 1)) = ofB (l.take i) * 256 + b.toNat := foldl_take' _ _ hx
    have hb := b.toNat_lt
    have hn : ofN (l.take (i + 1)) = ofN (l.take i) % 36028797018963968 * 256 + b.toNat := by
      unfold ofN
      rw [hst]; omega
    generalize ofN (l.take i) = c at hc hn
    have r1 := rem_nat (TypeDesc.int IntKind.i64) (n := c) (m := 36028797018963968) (by omega) (by omega) (b := 36028797018963968) rfl
    have m1 : IntKind.i64.wrap (((c % 36028797018963968 : Nat) : Int) * 256) = ((c % 36028797018963968 * 256 : Nat) : Int) := by rw [wrap_id] <;> omega
    have q1 : IntKind.i64.wrap (b.toNat : Int) = (b.toNat : Int) := wrap_nat (by omega)
    have a1 : IntKind.i64.wrap (((c % 36028797018963968 * 256 : Nat) : Int) + (b.toNat : Int)) = ((c % 36028797018963968 * 256 + b.toNat : Nat) : Int) := by rw [wrap_id] <;> omega
    simp only [RS0, RS1, RS2, RS3, RS4, RS5, str_size, e1, r1, m1, ixS_str hx, cvI_int, q1, a1, e2]
    exact ⟨⟨i + 1, by rw [hn], by omega, (by trivial)⟩, by simp only [nth_1]; omega⟩
  · have hie : i = l.length := by omega
    subst hie
    have e1 : decide (((l.length : Nat) : Int) < (l.length : Int)) = false := by simp
    rw [List.take_length]
    simp only [RS0, RS1, RS2, RS3, RS4, RS5, str_size, e1]
    exact ⟨(by trivial), (by trivial)⟩

end Go.Proofs.YthbngnlmgplijaaGreatDoor

namespace Go.Proofs.YthbngnlmgplijaaGreatDoor
open Go.Al Go.Proofs
set_option linter.unusedVariables false
set_option linter.unusedSimpArgs false
set_option linter.unusedSectionVars false

theorem B44 : ByteT Tryz.prog 123 5 9 := byteT_of Tryz.underlying123 Tryz.underlying5 Tryz.underlying9 (by kernel_rfl)
theorem K118 : KeyT Tryz.prog 124 3 9 iv := keyT_int Tryz.underlying124 Tryz.underlying3
theorem z9 (w : World) : (zeroValue 9).run Tryz.prog w = .ok (stv []) w := by kernel_rfl
theorem bld120 (g n c m : Nat) (w : World) : (Instr.build 126 #[(0, .slice (some ⟨g, 0, none⟩) n c), (1, .map (some m))]).run Tryz.prog w = .ok (.agg #[.slice (some ⟨g, 0, none⟩) n c, .map (some m), iv 0, .bool false, iv 0]) w := by kernel_rfl

structure DAt (w : World) (b g m : Nat) (d : Dk) : Prop where
  wf : d.Wf
  st : w.heap[b]? = some (.cells #[.slice (some ⟨g, 0, none⟩) (64 * d.cur.length) (64 * d.cur.length), .map (some m), iv d.armed, .bool d.gone, iv d.done] 126)
  by_ : BRow w g 5 d.cur.flatten
  mp : ∃ M : List (Int × Bs), MapAt w m iv stv M ∧ ∀ k x, (k, x) ∈ M ↔ ∃ i : Nat, k = (i : Int) ∧ Dk.isC d.chg i = true ∧ d.old[i]? = some x
theorem DAt.bg {w : World} {b g m : Nat} {d : Dk} (h : DAt w b g m d) : b ≠ g := by
  rintro rfl
  have := h.st; rw [h.by_] at this; simp at this
theorem DAt.bm {w : World} {b g m : Nat} {d : Dk} (h : DAt w b g m d) : b ≠ m := by
  rintro rfl
  obtain ⟨M, hM, _⟩ := h.mp
  obtain ⟨es, c, hb, _⟩ := hM.ex
  rw [h.st] at hb; cases hb
theorem DAt.gm {w : World} {b g m : Nat} {d : Dk} (h : DAt w b g m d) : g ≠ m := by
  rintro rfl
  obtain ⟨M, hM, _⟩ := h.mp
  obtain ⟨es, c, hb, _⟩ := hM.ex
  have := h.by_
  unfold BRow at this
  rw [this] at hb; cases hb
theorem DAt.keep {S : Nat → Prop} {w w' : World} {b g m : Nat} {d : Dk} (h : DAt w b g m d) (hf : Fm S w w') (h1 : ¬ S b) (h2 : ¬ S g) (h3 : ¬ S m) : DAt w' b g m d := by
  obtain ⟨M, hM, hi⟩ := h.mp
  exact ⟨h.wf, hf.heap h.st h1, h.by_.keep hf h2, M, hM.keep hf h3, hi⟩
theorem DAt.keep0 {w w' : World} {b g m : Nat} {d : Dk} (h : DAt w b g m d) (hf : Fm (fun _ => False) w w') : DAt w' b g m d := h.keep hf (fun e => e) (fun e => e) (fun e => e)
theorem DAt.drew {w : World} {b g m : Nat} {d : Dk} (h : DAt w b g m d) : DAt w.drew b g m d := h.keep0 (Fm.drew _ w)
theorem DAt.lt {w : World} {b g m : Nat} {d : Dk} (h : DAt w b g m d) : b < w.heap.size ∧ g < w.heap.size ∧ m < w.heap.size := by
  obtain ⟨M, hM, _⟩ := h.mp
  exact ⟨lt_of_heap h.st, h.by_.lt, hM.lt⟩
theorem DAt.c0 {w : World} {b g m : Nat} {d : Dk} (h : DAt w b g m d) : w.cell? ⟨b, 0, none⟩ = some (.slice (some ⟨g, 0, none⟩) (64 * d.cur.length) (64 * d.cur.length)) := by rw [cell_at h.st]; rfl
theorem DAt.c1 {w : World} {b g m : Nat} {d : Dk} (h : DAt w b g m d) : w.cell? ⟨b, 1, none⟩ = some (.map (some m)) := by rw [cell_at h.st]; rfl
theorem DAt.c3 {w : World} {b g m : Nat} {d : Dk} (h : DAt w b g m d) : w.cell? ⟨b, 3, none⟩ = some (.bool d.gone) := by rw [cell_at h.st]; rfl
theorem DAt.c4 {w : World} {b g m : Nat} {d : Dk} (h : DAt w b g m d) : w.cell? ⟨b, 4, none⟩ = some (iv d.done) := by rw [cell_at h.st]; rfl

theorem dnew_spec (w : World) (n : Int) : Cl Tryz.prog 17 [iv n] w fun v w' =>
    (n < 1 ∨ 65536 < n → v = .tuple #[.pointer none, iv 1] ∧ w' = w) ∧
    (¬ (n < 1 ∨ 65536 < n) → ∃ b g m, v = .tuple #[pv b, iv 0] ∧ w.heap.size ≤ b ∧ w.heap.size ≤ g ∧ w.heap.size ≤ m ∧ DAt w' b g m (Dk.mk0 n.toNat) ∧ Fm (fun _ => False) w w') := by
  refine c17 ?_; unfold T17
  have ok : ¬ (n < 1 ∨ 65536 < n) → Pu (binV (TypeDesc.int IntKind.i64) .mul (iv n) (Value.int IntKind.i64 64)) fun t11_7 =>
      RunS Tryz.prog (Instr.makeSlice 123 t11_7 t11_7) w fun t12_8 w_9 =>
      RunS Tryz.prog (Instr.makeMap 124 none) w_9 fun t13_10 w_11 =>
      RunS Tryz.prog (Instr.build 126 #[(0, t12_8), (1, t13_10)]) w_11 fun t14_12 w_13 =>
      New (Value.cells t14_12) 126 w_13 fun t15_14 w_15 =>
      ∃ b g m, Value.tuple #[t15_14, (Value.int IntKind.i64 0)] = .tuple #[pv b, iv 0] ∧ w.heap.size ≤ b ∧ w.heap.size ≤ g ∧ w.heap.size ≤ m ∧ DAt w_15 b g m (Dk.mk0 n.toNat) ∧ Fm (fun _ => False) w w_15 := by
    intro hn
    obtain ⟨k, rfl⟩ := Int.eq_ofNat_of_zero_le (show 0 ≤ n by omega)
    have hk : 1 ≤ k ∧ k ≤ 65536 := by omega
    have e1 : IntKind.i64.wrap ((k : Int) * 64) = ((64 * k : Nat) : Int) := by rw [wrap_id] <;> omega
    simp only [RS0, RS1, RS2, RS3, RS4, RS5, e1]
    refine RunS_ok (BRow.make B44 w (64 * k) (by omega)) (RunS_ok (makeMap_run _ _) (RunS_ok (bld120 _ _ _ _ _) (New_any ?_)))
    intro b w' hb hs hw hf
    have hs1 := alloc_size w (.cells (bc (List.replicate (64 * k) 0)).toArray 5)
    generalize hw1 : w.alloc (.cells (bc (List.replicate (64 * k) 0)).toArray 5) = w1 at hs1 hb hs hf hw
    have hg : BRow w1 w.heap.size 5 (List.replicate (64 * k) 0) := by rw [← hw1]; exact alloc_new _ _
    have hf1 : Fm (fun _ => False) w w1 := by rw [← hw1]; exact Fm.alloc _ _ _
    have hM := (MapAt.empty w1 iv stv).keep hf (fun e => e)
    have hf2 := (Fm.alloc (fun _ => False) w1 (.map #[] 0))
    rw [alloc_size] at hb
    have hfl : List.replicate (64 * k) 0 = (Dk.mk0 k).cur.flatten := by
      show _ = (List.replicate k Dk.zsec).flatten
      rw [Dk.zsec, List.flatten_replicate_replicate, Nat.mul_comm]
    have hlen : (Dk.mk0 k).cur.length = k := by simp [Dk.mk0]
    refine ⟨b, w.heap.size, w1.heap.size, rfl, by omega, by omega, by omega, ⟨Dk.wf_mk0 hk.2, ?_, ?_, [], hM, ?_⟩, ?_⟩
    · rw [Int.toNat_natCast, hlen]; exact hw
    · rw [Int.toNat_natCast, ← hfl]; exact (hg.keep hf2 (fun e => e)).keep hf (fun e => e)
    · intro a x
      constructor
      · intro h; cases h
      · rintro ⟨i, _, hc, _⟩
        have := Dk.isC_rep k i
        rw [show (Dk.mk0 (k : Int).toNat).chg = List.replicate k false from rfl] at hc
        rw [this] at hc; cases hc
    · exact (hf1.trans hf2 (fun _ _ e => e) (fun _ _ e => e)).trans hf (fun _ _ e => e) (fun _ _ e => e)
  by_cases h1 : n < 1
  · have e1 : decide (n < 1) = true := by simpa using h1
    simp only [RS0, RS1, RS2, RS3, RS4, RS5, e1]
    exact ⟨fun _ => ⟨trivial, trivial⟩, fun h => absurd (.inl h1) h⟩
  · have e1 : decide (n < 1) = false := by simpa using h1
    by_cases h2 : 65536 < n
    · have e2 : decide (65536 < n) = true := by simpa using h2
      simp only [RS0, RS1, RS2, RS3, RS4, RS5, e1, e2]
      exact ⟨fun _ => ⟨trivial, trivial⟩, fun h => absurd (.inr h2) h⟩
    · have e2 : decide (65536 < n) = false := by simpa using h2
      have hno : ¬ (n < 1 ∨ 65536 < n) := by omega
      have := ok hno
      simp only [RS0, RS1, RS2, RS3, RS4, RS5, e1, e2]
      simp only [hno, false_imp_iff, true_and, not_false_eq_true, true_imp_iff]
      simp only [RS0, RS1, RS2, RS3, RS4, RS5] at this
      exact this

theorem dsize_spec {w : World} {b g m : Nat} {d : Dk} (h : DAt w b g m d) : Cl Tryz.prog 108 [pv b] w fun v w' => v = iv d.cur.length ∧ w' = w := by
  have hn := h.wf.n1
  refine c108 ?_; unfold T108
  have e := quo_nat (TypeDesc.int IntKind.i64) (n := 64 * d.cur.length) (m := 64) (b := 64) (by omega) (by omega) rfl
  simp only [RS0, RS1, RS2, RS3, RS4, RS5, h.c0, e]
  rw [Nat.mul_div_cancel_left _ (by omega)]
  exact ⟨(by trivial), (by trivial)⟩
theorem dalive_spec {w : World} {b g m : Nat} {d : Dk} (h : DAt w b g m d) : Cl Tryz.prog 110 [pv b] w fun v w' => v = iv (bif d.gone then 5 else 0) ∧ w' = w := by
  refine c110 ?_; unfold T110
  simp only [RS0, RS1, RS2, RS3, RS4, RS5, h.c3]
  cases d.gone <;> simp only [RS0, RS1, RS2, RS3, RS4, RS5, cond_true, cond_false, and_self]
theorem dhas_spec {w : World} {b g m : Nat} {d : Dk} (h : DAt w b g m d) (a k : Int) : Cl Tryz.prog 114 [pv b, iv a, iv k] w fun v w' => v = .bool (d.has a k) ∧ w' = w := by
  have hn := h.wf.n1
  refine c114 ?_; unfold T114
  unfold Dk.has
  by_cases h1 : 0 ≤ a
  · have e1 : decide (0 ≤ a) = true := by simpa using h1
    by_cases h2 : 0 ≤ k
    · have e2 : decide (0 ≤ k) = true := by simpa using h2
      simp only [RS0, RS1, RS2, RS3, RS4, RS5, e1, e2]
      refine (dsize_spec h).mono ?_
      rintro _ w ⟨rfl, rfl⟩
      by_cases h3 : a ≤ d.cur.length
      · have e3 : decide (a ≤ (d.cur.length : Int)) = true := by simpa using h3
        simp only [RS0, RS1, RS2, RS3, RS4, RS5, e3]
        refine (dsize_spec h).mono ?_
        rintro _ w ⟨rfl, rfl⟩
        have e4 : IntKind.i64.wrap ((d.cur.length : Int) - a) = d.cur.length - a := wrap_id (by omega)
        simp only [RS0, RS1, RS2, RS3, RS4, RS5, e4]
        refine ⟨?_, (by trivial)⟩
        congr 1
        simp [h1, h2, h3]
      · have e3 : decide (a ≤ (d.cur.length : Int)) = false := by simpa using h3
        simp only [RS0, RS1, RS2, RS3, RS4, RS5, e3]
        refine ⟨?_, (by trivial)⟩
        congr 1
        symm
        rw [decide_eq_false_iff_not]; omega
    · have e2 : decide (0 ≤ k) = false := by simpa using h2
      simp only [RS0, RS1, RS2, RS3, RS4, RS5, e1, e2]
      refine ⟨?_, (by trivial)⟩
      congr 1
      symm
      rw [decide_eq_false_iff_not]; omega
  · have e1 : decide (0 ≤ a) = false := by simpa using h1
    simp only [RS0, RS1, RS2, RS3, RS4, RS5, e1]
    refine ⟨?_, (by trivial)⟩
    congr 1
    symm
    rw [decide_eq_false_iff_not]; omega
theorem dsector_spec {w : World} {b g m : Nat} {d : Dk} (h : DAt w b g m d) {i : Nat} (hi : i < d.cur.length) : Cl Tryz.prog 121 [pv b, iv i] w fun v w' => v = .slice (some ⟨g, 64 * i, none⟩) 64 (64 * d.cur.length - 64 * i) ∧ w' = w := by
  have hn := h.wf.n1
  refine c121 ?_; unfold T121
  have e1 : IntKind.i64.wrap ((i : Int) * 64) = ((64 * i : Nat) : Int) := by rw [wrap_id] <;> omega
  have e2 : IntKind.i64.wrap ((i : Int) + 1) = ((i + 1 : Nat) : Int) := by rw [wrap_id] <;> omega
  have e3 : IntKind.i64.wrap (((i + 1 : Nat) : Int) * 64) = ((64 * (i + 1) : Nat) : Int) := by rw [wrap_id] <;> omega
  obtain ⟨o', hs, ho, _⟩ := slV_lh (g := g) (o := 0) (n := 64 * d.cur.length) (c := 64 * d.cur.length) (i := 64 * i) (j := 64 * (i + 1)) (by omega) (by omega) .i64 .i64
  simp only [RS0, RS1, RS2, RS3, RS4, RS5, h.c0, e1, e2, e3, hs]
  rw [ho (by omega), show 64 * (i + 1) - 64 * i = 64 by omega, Nat.zero_add]
  exact ⟨(by trivial), (by trivial)⟩

theorem DAt.tick {w w' : World} {b g m : Nat} {d d' : Dk} (h : DAt w b g m d) (hc : d'.cur = d.cur ∧ d'.old = d.old ∧ d'.chg = d.chg) (hwf : d'.Wf)
    (hb : w'.heap[b]? = some (.cells #[.slice (some ⟨g, 0, none⟩) (64 * d.cur.length) (64 * d.cur.length), .map (some m), iv d'.armed, .bool d'.gone, iv d'.done] 126)) (hf : Fm (· = b) w w') : DAt w' b g m d' := by
  obtain ⟨M, hM, hi⟩ := h.mp
  have h1 := h.bg; have h2 := h.bm
  obtain ⟨hc1, hc2, hc3⟩ := hc
  exact ⟨hwf, by rw [hc1]; exact hb, by rw [hc1]; exact h.by_.keep hf (fun e => h1 e.symm), M, hM.keep hf (fun e => h2 e.symm), by rw [hc2, hc3]; exact hi⟩

theorem dact_spec {w : World} {b g m : Nat} {d : Dk} (h : DAt w b g m d) : Cl Tryz.prog 111 [pv b] w fun v w' => v = .bool d.tick.gone ∧ DAt w' b g m d.tick ∧ Fm (· = b) w w' := by
  have har := h.wf.ar
  refine c111 ?_; unfold T111
  simp only [RS0, RS1, RS2, RS3, RS4, RS5, h.c4]
  refine St_blk h.st (by simp) rfl ?_
  intro w1 hw1 hs1 hf1
  replace hw1 : w1.heap[b]? = some (.cells #[.slice (some ⟨g, 0, none⟩) (64 * d.cur.length) (64 * d.cur.length), .map (some m), iv d.armed, .bool d.gone, iv (IntKind.i64.wrap (d.done + 1))] 126) := hw1
  have c2 : w1.cell? ⟨b, 2, none⟩ = some (iv d.armed) := by rw [cell_at hw1]; rfl
  refine Jn_at (fun vs w2 => vs = [] ∧ DAt w2 b g m d.tick ∧ Fm (· = b) w w2) ?_ ?_
  · rintro _ w2 ⟨rfl, hD, hf⟩ _
    refine ⟨rfl, ?_⟩
    simp only [RS0, RS1, RS2, RS3, RS4, RS5, hD.c3]
    exact ⟨trivial, hD, hf⟩
  · intro kk hkk
    simp only [RS0, RS1, RS2, RS3, RS4, RS5, c2]
    by_cases ha : 0 < d.armed
    · have e1 : decide (0 < d.armed) = true := by simpa using ha
      have e2 : IntKind.i64.wrap (d.armed - 1) = d.armed - 1 := wrap_id (by omega)
      simp only [RS0, RS1, RS2, RS3, RS4, RS5, e1, c2, e2]
      refine St_blk hw1 (by simp) rfl ?_
      intro w2 hw2 hs2 hf2
      replace hw2 : w2.heap[b]? = some (.cells #[.slice (some ⟨g, 0, none⟩) (64 * d.cur.length) (64 * d.cur.length), .map (some m), iv (d.armed - 1), .bool d.gone, iv (IntKind.i64.wrap (d.done + 1))] 126) := hw2
      have c2' : w2.cell? ⟨b, 2, none⟩ = some (iv (d.armed - 1)) := by rw [cell_at hw2]; rfl
      simp only [RS0, RS1, RS2, RS3, RS4, RS5, c2']
      refine St_blk hw2 (by simp) rfl ?_
      intro w3 hw3 hs3 hf3
      have hF : Fm (· = b) w w3 := (hf1.trans hf2 (fun _ _ e => e) (fun _ _ e => e)).trans hf3 (fun _ _ e => e) (fun _ _ e => e)
      refine hkk _ _ ⟨rfl, h.tick (Dk.tick_cur d) h.wf.tick ?_ hF, hF⟩
      unfold Dk.tick
      rw [if_pos ha]
      rw [beq_dec] at hw3
      exact hw3
    · have e1 : decide (0 < d.armed) = false := by simpa using ha
      simp only [RS0, RS1, RS2, RS3, RS4, RS5, e1]
      refine hkk _ _ ⟨rfl, h.tick (Dk.tick_cur d) h.wf.tick ?_ hf1, hf1⟩
      unfold Dk.tick
      rw [if_neg ha]
      exact hw1

theorem dread_spec {w : World} {b g m : Nat} {d : Dk} (h : DAt w b g m d) (a k : Int) : Cl Tryz.prog 40 [pv b, iv a, iv k] w fun v w' => v = .tuple #[stv (d.read a k).1, iv (d.read a k).2] ∧ w' = w := by
  have hn := h.wf.n1
  refine c40 ?_; unfold T40
  refine (dalive_spec h).mono ?_
  rintro _ w ⟨rfl, rfl⟩
  unfold Dk.read
  cases hg : d.gone with
  | true =>
    simp only [RS0, RS1, RS2, RS3, RS4, RS5, cond_true, bne_dec]
    exact ⟨(by trivial), (by trivial)⟩
  | false =>
    simp only [RS0, RS1, RS2, RS3, RS4, RS5, cond_false, bne_self_eq_false]
    refine (dhas_spec h a k).mono ?_
    rintro _ w ⟨rfl, rfl⟩
    cases hh : d.has a k with
    | false =>
      simp only [RS0, RS1, RS2, RS3, RS4, RS5, cond_true]
      exact ⟨(by trivial), (by trivial)⟩
    | true =>
      unfold Dk.has at hh
      simp only [decide_eq_true_eq] at hh
      obtain ⟨i, rfl⟩ := Int.eq_ofNat_of_zero_le hh.1
      obtain ⟨j, rfl⟩ := Int.eq_ofNat_of_zero_le hh.2.1
      have hij : i + j ≤ d.cur.length := by omega
      have e1 : IntKind.i64.wrap ((i : Int) * 64) = ((64 * i : Nat) : Int) := by rw [wrap_id] <;> omega
      have e2 : IntKind.i64.wrap ((i : Int) + j) = ((i + j : Nat) : Int) := by rw [wrap_id] <;> omega
      have e3 : IntKind.i64.wrap (((i + j : Nat) : Int) * 64) = ((64 * (i + j) : Nat) : Int) := by rw [wrap_id] <;> omega
      obtain ⟨o', hs, ho, hle, _⟩ := slV_lh (g := g) (o := 0) (n := 64 * d.cur.length) (c := 64 * d.cur.length) (i := 64 * i) (j := 64 * (i + j)) (by omega) (by omega) .i64 .i64
      simp only [RS0, RS1, RS2, RS3, RS4, RS5, h.c0, e1, e2, e3, hs, cond_false]
      have hfl := Dk.flat_len h.wf.s1
      have ee : 64 * (i + j) - 64 * i = 64 * j := by omega
      rw [ee]
      refine RunS_ok (h.by_.conv B44 (o := o') (n := 64 * j) (by rw [hfl]; omega) _) ⟨?_, (by trivial)⟩
      congr 3
      have hd : (d.cur.flatten.drop o').take (64 * j) = ((d.cur.drop i).take j).flatten := by
        by_cases hi : 64 * i < 64 * d.cur.length
        · rw [ho hi, Nat.zero_add, Dk.flat_drop h.wf.s1, Dk.flat_take (fun x hx => h.wf.s1 x (List.mem_of_mem_drop hx))]
        · have hj0 : j = 0 := by omega
          subst hj0; simp
      rw [hd]; rfl
theorem ddead_spec {w : World} {b g m : Nat} {d : Dk} (h : DAt w b g m d) : Cl Tryz.prog 58 [pv b] w fun v w' => v = .bool d.gone ∧ w' = w := by
  refine c58 ?_; unfold T58
  simp only [RS0, RS1, RS2, RS3, RS4, RS5, h.c3, pickV_t, and_self]
theorem darm_spec {w : World} {b g m : Nat} {d : Dk} (h : DAt w b g m d) {a : Int} (ha : a ≤ 9223372036854775807) : Cl Tryz.prog 56 [pv b, iv a] w fun v w' => v = iv (d.arm a).2 ∧ DAt w' b g m (d.arm a).1 ∧ Fm (· = b) w w' := by
  have hwf := h.wf.arm ha
  refine c56 ?_; unfold T56
  refine (dalive_spec h).mono ?_
  rintro _ w ⟨rfl, rfl⟩
  unfold Dk.arm at hwf ⊢
  cases hg : d.gone with
  | true =>
    simp only [RS0, RS1, RS2, RS3, RS4, RS5, cond_true, bne_dec]
    exact ⟨(by trivial), h, Fm.refl _ _⟩
  | false =>
    rw [hg] at hwf
    simp only [RS0, RS1, RS2, RS3, RS4, RS5, cond_false, bne_self_eq_false]
    by_cases hn : a < 0
    · have e1 : decide (a < 0) = true := by simpa using hn
      simp only [RS0, RS1, RS2, RS3, RS4, RS5, e1, cond_true]
      exact ⟨(by trivial), h, Fm.refl _ _⟩
    · have e1 : decide (a < 0) = false := by simpa using hn
      simp only [RS0, RS1, RS2, RS3, RS4, RS5, e1, cond_false]
      rw [e1] at hwf
      refine St_blk h.st (by simp) rfl ?_
      intro w1 hw1 hs1 hf1
      exact ⟨(by trivial), h.tick ⟨rfl, rfl, rfl⟩ hwf (by rw [hg] at hw1; exact hw1) hf1, hf1⟩
end Go.Proofs.YthbngnlmgplijaaGreatDoor

namespace Go.Proofs.YthbngnlmgplijaaGreatDoor
open Go.Al Go.Proofs
open Go.ChangeMaps (setBlock)
set_option linter.unusedVariables false
set_option linter.unusedSimpArgs false
set_option linter.unusedSectionVars false

theorem clear_map {P : Program} {t kt et : TypeId} (ht : P.underlying t = some (.map kt et)) {α β : Type} [DecidableEq α] {kv : α → Value} {vv : β → Value} {w : World} {m : Nat} {M : List (α × β)} (h : MapAt w m kv vv M) (ty : TypeId) :
    ∃ w', (Builtin.clear_ #[t] ty #[.map (some m)]).run P w = .ok (.tuple #[]) w' ∧ MapAt w' m kv vv ([] : List (α × β)) ∧ Fm (· = m) w w' ∧ w'.heap.size = w.heap.size := by
  obtain ⟨es, c, hb, he, hn, hlt⟩ := h.ex
  refine ⟨setBlock w m (.map #[] c), ?_, ⟨⟨#[], c, setBlock_at hb, rfl, by simp, by simp⟩, by simp⟩, Fm.setBlock _ _ _ rfl, setBlock_size _ _ _⟩
  unfold Builtin.clear_
  simp only [List.getElem?_toArray, List.getElem?_cons_zero, Sem.run_bind, run_underlying ht, Result.andThen_ok, Go.Al.run_getObj_map hb, Go.Al.run_setObj_map hb, Sem.run_pure]

theorem dsync_spec {w : World} {b g m : Nat} {d : Dk} (h : DAt w b g m d) : Cl Tryz.prog 38 [pv b] w fun v w' => v = iv d.sync.2 ∧ DAt w' b g m d.sync.1 ∧ Fm (fun x => x = b ∨ x = g ∨ x = m) w w' := by
  have hwf := h.wf.sync
  refine c38 ?_; unfold T38
  refine (dalive_spec h).mono ?_
  rintro _ w ⟨rfl, rfl⟩
  unfold Dk.sync at hwf ⊢
  cases hg : d.gone with
  | true =>
    simp only [RS0, RS1, RS2, RS3, RS4, RS5, cond_true, bne_dec]
    exact ⟨(by trivial), h, Fm.refl _ _⟩
  | false =>
    rw [hg] at hwf
    simp only [RS0, RS1, RS2, RS3, RS4, RS5, cond_false, bne_self_eq_false]
    refine (dact_spec h).mono ?_
    rintro _ w1 ⟨rfl, h1, hf1⟩
    simp only [cond_false] at hwf
    cases hg1 : d.tick.gone with
    | true =>
      simp only [RS0, RS1, RS2, RS3, RS4, RS5, cond_true]
      exact ⟨(by trivial), h1, hf1.mono fun _ _ e => .inl e⟩
    | false =>
      rw [hg1] at hwf
      simp only [RS0, RS1, RS2, RS3, RS4, RS5, cond_false, h1.c1]
      obtain ⟨M, hM, _⟩ := h1.mp
      obtain ⟨w2, hr, hM2, hf2, _⟩ := clear_map Tryz.underlying124 hM 0
      refine RunS_ok hr ?_
      refine ⟨(by trivial), ⟨hwf, ?_, ?_, [], hM2, ?_⟩, hf1.trans hf2 (fun _ _ e => .inl e) (fun _ _ e => .inr (.inr e))⟩
      · have := hf2.heap h1.st h1.bm; rw [hg1] at this; exact this
      · exact h1.by_.keep hf2 h1.gm
      · intro k x
        constructor
        · intro e; cases e
        · rintro ⟨i, _, hc, _⟩
          simp only [Dk.isC_rep] at hc; cases hc
theorem DAt.noted {w : World} {b g m : Nat} {d : Dk} (h : DAt w b g m d) {i : Nat} (hi : i < d.cur.length) {M' : List (Int × Bs)} {w' : World}
    (hM : ∃ M : List (Int × Bs), MapAt w m iv stv M ∧ (∀ k x, (k, x) ∈ M ↔ ∃ i : Nat, k = (i : Int) ∧ Dk.isC d.chg i = true ∧ d.old[i]? = some x) ∧
      (Dk.isC d.chg i = false → M' = setD M (i : Int) (d.cur.getD i [])) ∧ (Dk.isC d.chg i = true → M' = M)) (hM' : MapAt w' m iv stv M') :
    ∀ k x, (k, x) ∈ M' ↔ ∃ j : Nat, k = (j : Int) ∧ Dk.isC (d.chg.set i true) j = true ∧ d.old[j]? = some x := by
  obtain ⟨M, hMw, hmem, hno, hyes⟩ := hM
  have hil : i < d.chg.length := by rw [h.wf.lc]; exact hi
  intro k x
  cases hc : Dk.isC d.chg i with
  | true =>
    rw [hyes hc, hmem]
    constructor
    · rintro ⟨j, rfl, hj, hx⟩
      exact ⟨j, rfl, by rw [Dk.isC_set _ _ _ hil]; split <;> first | rfl | exact hj, hx⟩
    · rintro ⟨j, rfl, hj, hx⟩
      refine ⟨j, rfl, ?_, hx⟩
      rw [Dk.isC_set _ _ _ hil] at hj
      split at hj
      · rename_i e; subst e; exact hc
      · exact hj
  | false =>
    have hs := hno hc
    subst hs
    have hold : d.old[i]? = some (d.cur.getD i []) := by
      rw [h.wf.same i hc, List.getD_eq_getElem?_getD, List.getElem?_eq_getElem hi]; rfl
    rw [← getD_some hM'.keys, getD_setD]
    split
    · rename_i e
      subst e
      constructor
      · intro e; cases e
        exact ⟨i, rfl, by rw [Dk.isC_set _ _ _ hil, if_pos rfl], hold⟩
      · rintro ⟨j, hj, _, hx⟩
        have : i = j := by omega
        subst this
        rw [hold] at hx; exact hx
    · rename_i hne
      rw [getD_some hMw.keys, hmem]
      constructor
      · rintro ⟨j, rfl, hj, hx⟩
        exact ⟨j, rfl, by rw [Dk.isC_set _ _ _ hil]; split <;> first | rfl | exact hj, hx⟩
      · rintro ⟨j, rfl, hj, hx⟩
        refine ⟨j, rfl, ?_, hx⟩
        rw [Dk.isC_set _ _ _ hil, if_neg (fun e => hne (by rw [e]))] at hj
        exact hj

theorem dwrite_spec {w : World} {b g m : Nat} {d : Dk} (h : DAt w b g m d) (a : Int) (s : Bs) (hs : s.length ≤ 9223372036854775807) : Cl Tryz.prog 94 [pv b, iv a, stv s] w fun v w' => v = iv (d.write a s).2 ∧ DAt w' b g m (d.write a s).1 ∧ Fm (fun x => x = b ∨ x = g ∨ x = m) w w' := by
  have hn := h.wf.n1
  refine c94 ?_; unfold T94
  refine (dalive_spec h).mono ?_
  rintro _ w ⟨rfl, rfl⟩
  unfold Dk.write
  cases hg : d.gone with
  | true =>
    simp only [RS0, RS1, RS2, RS3, RS4, RS5, cond_true, bne_dec]
    exact ⟨(by trivial), h, Fm.refl _ _⟩
  | false =>
    have er := rem_nat (TypeDesc.int IntKind.i64) (n := s.length) (m := 64) (b := 64) (by omega) hs rfl
    have eq := quo_nat (TypeDesc.int IntKind.i64) (n := s.length) (m := 64) (b := 64) (by omega) hs rfl
    simp only [RS0, RS1, RS2, RS3, RS4, RS5, str_size, str_nil, str_inj, cond_false, bne_self_eq_false, er]
    by_cases hr : s.length % 64 = 0
    · have e1 : (((s.length % 64 : Nat) : Int) != 0) = false := by rw [hr]; rfl
      have e1' : decide (s.length % 64 ≠ 0) = false := by simp [hr]
      simp only [RS0, RS1, RS2, RS3, RS4, RS5, str_size, str_nil, str_inj, e1, e1', eq, Bool.false_or]
      refine (dhas_spec h a _).mono ?_
      rintro _ w ⟨rfl, rfl⟩
      cases hh : d.has a (s.length / 64 : Nat) with
      | false =>
        simp only [RS0, RS1, RS2, RS3, RS4, RS5, cond_true]
        exact ⟨(by trivial), h, Fm.refl _ _⟩
      | true =>
        simp only [RS0, RS1, RS2, RS3, RS4, RS5, cond_false]
        unfold Dk.has at hh
        simp only [decide_eq_true_eq] at hh
        obtain ⟨p, rfl⟩ := Int.eq_ofNat_of_zero_le hh.1
        rw [Int.toNat_natCast]
        have hlen : s.length = 64 * (s.length / 64) := by omega
        generalize hK : s.length / 64 = K at hh hlen ⊢
        refine ⟨fun vs w2 => ∃ (i r : Nat) (t : Bs) (e : Dk), vs = [iv (i : Nat), stv t] ∧ t.length = 64 * r ∧ i + r ≤ d.cur.length ∧ e.cur.length = d.cur.length ∧ d.wr p (Dk.chunks K s) = e.wr i (Dk.chunks r t) ∧ DAt w2 b g m e ∧ Fm (fun x => x = b ∨ x = g ∨ x = m) w w2,
          fun vs _ => sz1 vs, ⟨p, K, s, d, rfl, hlen, by omega, rfl, rfl, h, Fm.refl _ _⟩, ?_⟩
        rintro _ w2 iat idata ⟨i, r, t, e, hvs, htl, hir, hel, heq, hE, hf⟩
        cases hvs
        cases r with
        | zero =>
          have : t = [] := List.eq_nil_of_length_eq_zero (by omega)
          subst this
          simp only [RS0, RS1, RS2, RS3, RS4, RS5, str_size, str_nil, str_inj, decide_true]
          rw [heq]
          exact ⟨(by trivial), hE, hf⟩
        | succ r =>
          have hne : t ≠ [] := by rintro rfl; simp at htl
          have hie : i < e.cur.length := by omega
          have e2 : decide (t = []) = false := by simpa using hne
          simp only [RS0, RS1, RS2, RS3, RS4, RS5, str_size, str_nil, str_inj, e2]
          have heq2 : d.wr p (Dk.chunks K s) = (let d' := (e.put i (t.take 64)).tick; bif d'.gone then (d', 5) else d'.wr (i + 1) (Dk.chunks r (t.drop 64))) := heq
          refine Jn_at (fun vs w3 => vs = [] ∧ (∃ M', MapAt w3 m iv stv M' ∧ ∀ k x, (k, x) ∈ M' ↔ ∃ j : Nat, k = (j : Int) ∧ Dk.isC (e.chg.set i true) j = true ∧ e.old[j]? = some x) ∧ Fm (· = m) w2 w3) ?_ ?_
          · rintro _ w3 ⟨rfl, ⟨M', hM', hmem'⟩, hf3⟩ _
            refine ⟨rfl, ?_⟩
            have et : slS (stv t) none (some (.int .i64 64)) = some (stv (t.take 64)) := slS_hi (l := t) (i := 64) (by omega) .i64
            have et2 : slS (stv t) (some (.int .i64 64)) none = some (stv (t.drop 64)) := slS_lo (l := t) (i := 64) (by omega) .i64
            simp only [RS0, RS1, RS2, RS3, RS4, RS5, et, et2]
            have hst3 := hf3.heap hE.st hE.bm
            have hby3 := hE.by_.keep hf3 hE.gm
            have hne3 : DAt w3.drew b g m { e with chg := List.replicate e.cur.length false, old := e.cur } ∨ True := .inr trivial
            -- the sector's slice
            refine Cl.mono (k := fun v w' => v = .slice (some ⟨g, 64 * i, none⟩) 64 (64 * e.cur.length - 64 * i) ∧ w' = w3.drew) ?_ ?_
            · refine c121 ?_; unfold T121
              have g1 : IntKind.i64.wrap ((i : Int) * 64) = ((64 * i : Nat) : Int) := by rw [wrap_id] <;> omega
              have g2 : IntKind.i64.wrap ((i : Int) + 1) = ((i + 1 : Nat) : Int) := by rw [wrap_id] <;> omega
              have g3 : IntKind.i64.wrap (((i + 1 : Nat) : Int) * 64) = ((64 * (i + 1) : Nat) : Int) := by rw [wrap_id] <;> omega
              obtain ⟨o', hs, ho, _⟩ := slV_lh (g := g) (o := 0) (n := 64 * e.cur.length) (c := 64 * e.cur.length) (i := 64 * i) (j := 64 * (i + 1)) (by omega) (by omega) .i64 .i64
              have c0 : w3.cell? ⟨b, 0, none⟩ = some (.slice (some ⟨g, 0, none⟩) (64 * e.cur.length) (64 * e.cur.length)) := by rw [cell_at hst3]; rfl
              simp only [RS0, RS1, RS2, RS3, RS4, RS5, c0, g1, g2, g3, hs]
              rw [ho (by omega), show 64 * (i + 1) - 64 * i = 64 by omega, Nat.zero_add]
              exact ⟨(by trivial), (by trivial)⟩
            · rintro _ _ ⟨rfl, rfl⟩
              have hfl := Dk.flat_len hE.wf.s1
              have ht64 : (t.take 64).length = 64 := by rw [List.length_take]; omega
              have hfd := Fm.drew (fun _ => False) w3
              obtain ⟨w4, hr4, hby4, hs4, hf4⟩ := (hby3.keep hfd (fun e => e)).copyS B44 (o := 64 * i) (n := 64) (x := t.take 64) (by omega) (by rw [hfl]; omega) (64 * e.cur.length - 64 * i) 3
              refine RunS_ok hr4 ?_
              have hput : DAt w4 b g m (e.put i (t.take 64)) := by
                refine ⟨hE.wf.put i ht64, ?_, ?_, M', ?_, hmem'⟩
                · have := hf4.heap (hfd.heap hst3 (fun e => e)) hE.bg
                  simpa [Dk.put] using this
                · have := hby4
                  rw [ht64] at this
                  have l1 := Dk.flat_lay hE.wf.s1 hie (j := 0) (y := t.take 64) (by omega) (by omega)
                  simp only [Nat.add_zero, List.take_zero, List.nil_append] at l1
                  rw [l1] at this
                  exact this
                · exact (hM'.keep hfd (fun e => e)).keep hf4 (fun x => hE.gm x.symm)
              refine (dact_spec hput).mono ?_
              rintro _ w5 ⟨rfl, h5, hf5⟩
              have hF : Fm (fun x => x = b ∨ x = g ∨ x = m) w w5 :=
                (((hf.trans hf3 (U := fun x => x = b ∨ x = g ∨ x = m) (fun _ _ e => e) (fun _ _ e => .inr (.inr e))).trans hfd (U := fun x => x = b ∨ x = g ∨ x = m) (fun _ _ e => e) (fun _ _ e => e.elim)).trans hf4 (U := fun x => x = b ∨ x = g ∨ x = m) (fun _ _ e => e) (fun _ _ e => .inr (.inl e))).trans hf5 (fun _ _ e => e) (fun _ _ e => .inl e)
              rw [heq2]
              cases hg5 : (e.put i (t.take 64)).tick.gone with
              | true =>
                simp only [RS0, RS1, RS2, RS3, RS4, RS5, hg5, cond_true]
                exact ⟨(by trivial), h5, hF⟩
              | false =>
                have g4 : IntKind.i64.wrap ((i : Int) + 1) = ((i + 1 : Nat) : Int) := by rw [wrap_id] <;> omega
                simp only [RS0, RS1, RS2, RS3, RS4, RS5, cond_false, g4]
                have hl5 : (e.put i (t.take 64)).tick.cur.length = e.cur.length := by rw [(Dk.tick_cur _).1]; simp [Dk.put]
                refine ⟨⟨i + 1, r, t.drop 64, _, rfl, by rw [List.length_drop]; omega, by omega, by rw [hl5, hel], ?_, h5, hF⟩, ?_⟩
                · simp only [hg5, cond_false]
                · rw [sz1_eq, sz1_eq, List.length_drop]; omega
          · intro kk hkk
            obtain ⟨M, hM, hmem⟩ := hE.mp
            simp only [RS0, RS1, RS2, RS3, RS4, RS5, hE.c1]
            refine RunS_ok (lookup_run K118 hM (i : Int) true (z9 _)) ?_
            cases hc : Dk.isC e.chg i with
            | true =>
              have hlt : i < e.old.length := by rw [hE.wf.lo]; omega
              have hget : getD M (i : Int) = some e.old[i] := (getD_some hM.keys).2 ((hmem _ _).2 ⟨i, rfl, hc, List.getElem?_eq_getElem hlt⟩)
              simp only [hget, okV, cond_true]
              simp only [RS0, RS1, RS2, RS3, RS4, RS5]
              exact hkk _ _ ⟨rfl, ⟨M, hM, hE.noted hie ⟨M, hM, hmem, fun e => (by rw [hc] at e; cases e), fun _ => rfl⟩ hM⟩, Fm.refl _ _⟩
            | false =>
              have hget : getD M (i : Int) = none := by
                cases hq : getD M (i : Int) with
                | none => rfl
                | some x =>
                  obtain ⟨j, hj, hcj, _⟩ := (hmem _ _).1 ((getD_some hM.keys).1 hq)
                  have : i = j := by omega
                  subst this; rw [hc] at hcj; cases hcj
              simp only [hget, okV, cond_true]
              simp only [RS0, RS1, RS2, RS3, RS4, RS5]
              refine ⟨fun w' => w'.cell? ⟨b, 1, none⟩ = some (.map (some m)), hE.c1, ?_⟩
              refine ⟨.map (some m), fun w' hw' => by simp only [RS0, RS1, RS2, RS3, RS4, RS5, hw']; exact ⟨(by trivial), (by trivial)⟩, ?_⟩
              have hEd := hE.drew
              refine (dsector_spec hEd hie).mono ?_
              rintro _ _ ⟨rfl, rfl⟩
              refine ⟨hE.c1, ?_⟩
              have hfl := Dk.flat_len hE.wf.s1
              refine RunS_ok (hEd.by_.conv B44 (o := 64 * i) (n := 64) (by rw [hfl]; omega) _) ⟨rfl, ?_⟩
              rw [Dk.flat_sec hE.wf.s1 hie]
              obtain ⟨w4, hr4, hM4, hf4, _⟩ := update_run K118 (hM.keep (Fm.drew (fun _ => False) w2) (fun e => e)) (i : Int) (e.cur.getD i [])
              refine RunU_ok hr4 ?_
              have hf24 : Fm (· = m) w2 w4 := (Fm.drew (fun _ => False) w2).trans hf4 (fun _ _ e => e.elim) (fun _ _ e => e)
              exact hkk _ _ ⟨rfl, ⟨_, hM4, hE.noted hie ⟨M, hM, hmem, fun _ => rfl, fun e => (by rw [hc] at e; cases e)⟩ hM4⟩, hf24⟩
    · have e1 : (((s.length % 64 : Nat) : Int) != 0) = true := by
        rw [bne_dec]; simp; omega
      have e1' : decide (s.length % 64 ≠ 0) = true := by simp [hr]
      simp only [RS0, RS1, RS2, RS3, RS4, RS5, str_size, str_nil, str_inj, e1, e1', Bool.true_or, cond_true]
      exact ⟨(by trivial), h, Fm.refl _ _⟩
end Go.Proofs.YthbngnlmgplijaaGreatDoor
