/- Rules for stepping through a text. -/
import Derived.Test.YthbngnlmgplijaaGreatDoorAlDraw2
namespace Go.Al
set_option linter.unusedVariables false
set_option linter.unusedSimpArgs false
set_option linter.unusedSectionVars false

theorem iff_eq {a b : Prop} (h1 : a → b) (h2 : b → a) : a = b := propext ⟨h1, h2⟩

/-! ### No simplification behind what comes next -/
@[congr] theorem Pu_congr {r r' : Option Value} {k : Value → Prop} (h : r = r') : Pu r k = Pu r' k := by rw [h]
@[congr] theorem Ld_congr {w : World} {x x' : Value} {k : KV} (h : x = x') : Ld w x k = Ld w x' k := by rw [h]
@[congr] theorem LdN_congr {n : Nat} {w : World} {x x' : Value} {k : KV} (h : x = x') : LdN n w x k = LdN n w x' k := by rw [h]
@[congr] theorem St_congr {n : Nat} {w : World} {x x' u : Value} {k : KV} (h : x = x') : St n w x u k = St n w x' u k := by rw [h]
@[congr] theorem New_congr {cs cs' : Array Value} {t : TypeId} {w : World} {k : KV} (h : cs = cs') : New cs t w k = New cs' t w k := by rw [h]
@[congr] theorem IfB_congr {v v' : Value} {a b : Prop} (h : v = v') : IfB v a b = IfB v' a b := by rw [h]
@[congr] theorem Gd_congr {c c' : Bool} {X : KV → Prop} {w : World} {k : KV} (h : c = c') : Gd c X w k = Gd c' X w k := by rw [h]
@[congr] theorem RunS_congr {P : Program} {s : Sem Value} {w : World} {k : KV} : RunS P s w k = RunS P s w k := rfl
@[congr] theorem RunU_congr {P : Program} {s : Sem Unit} {w : World} {k : KV} : RunU P s w k = RunU P s w k := rfl
@[congr] theorem Cl_congr {P : Program} {g : FuncId} {l : List Value} {w : World} {k : KV} : Cl P g l w k = Cl P g l w k := rfl
@[congr] theorem ClV_congr {P : Program} {v : Value} {l : List Value} {w : World} {k : KV} : ClV P v l w k = ClV P v l w k := rfl
@[congr] theorem Jn_congr {B : List Value → World → Prop} {A : (List Value → World → Prop) → Prop} : Jn B A = Jn B A := rfl

/-! ### Pure operations at known shapes -/
theorem extV_0 (a : Value) (l : List Value) : extV (.tuple (List.toArray (a :: l))) 0 = some a := rfl
theorem extV_1 (a b : Value) (l : List Value) : extV (.tuple (List.toArray (a :: b :: l))) 1 = some b := rfl
theorem extV_2 (a b c : Value) (l : List Value) : extV (.tuple (List.toArray (a :: b :: c :: l))) 2 = some c := rfl
theorem extV_3 (a b c d : Value) (l : List Value) : extV (.tuple (List.toArray (a :: b :: c :: d :: l))) 3 = some d := rfl
theorem nilV_ptr (a : Addr) : nilV (.pointer (some a)) = some (.pointer (some a)) := rfl
theorem nilV_fn (g : FuncId) (x y : Array Value) : nilV (.func (.func g) x y) = some (.func (.func g) x y) := rfl
theorem faV_ptr (n : Nat) (a : Addr) : faV n (.pointer (some a)) = some (.pointer (some (a.add n))) := rfl
theorem lenV_sl (a : Option Addr) (n c : Nat) : lenV (.slice a n c) = some (.int .i64 n) := rfl
theorem lenS_s (s : ByteArray) : lenS (.string s) = some (.int .i64 s.size) := rfl
theorem capV_sl (a : Option Addr) (n c : Nat) : capV (.slice a n c) = some (.int .i64 c) := rfl
theorem pickV_t (a b : Value) : pickV (.bool true) a b = some a := rfl
theorem pickV_f (a b : Value) : pickV (.bool false) a b = some b := rfl
theorem pickV_or (c x : Bool) : pickV (.bool c) (.bool true) (.bool x) = some (.bool (c || x)) := by cases c <;> rfl
theorem pickV_and (c x : Bool) : pickV (.bool c) (.bool x) (.bool false) = some (.bool (c && x)) := by cases c <;> simp [pickV]
theorem unV_not (b : Bool) : unV .not (.bool b) = some (.bool !b) := rfl
theorem unV_neg (k : IntKind) (n : Int) : unV .neg (.int k n) = some (.int k (k.wrap (0 - n))) := rfl
theorem isB_t (b : Bool) : isB true (.bool b) = b := rfl
theorem isB_f (b : Bool) : isB false (.bool b) = !b := rfl
theorem isB_u (b : Bool) : isB b undef = false := rfl
theorem binV_add (d : TypeDesc) (k : IntKind) (a b : Int) : binV d .add (.int k a) (.int k b) = some (.int k (k.wrap (a + b))) := by simp [binV, isSh, binI]
theorem binV_sub (d : TypeDesc) (k : IntKind) (a b : Int) : binV d .sub (.int k a) (.int k b) = some (.int k (k.wrap (a - b))) := by simp [binV, isSh, binI]
theorem binV_mul (d : TypeDesc) (k : IntKind) (a b : Int) : binV d .mul (.int k a) (.int k b) = some (.int k (k.wrap (a * b))) := by simp [binV, isSh, binI]
theorem binV_quo (d : TypeDesc) (k : IntKind) (a b : Int) : binV d .quo (.int k a) (.int k b) = if b = 0 then none else some (.int k (k.wrap (a.tdiv b))) := by simp [binV, isSh, binI]
theorem binV_rem (d : TypeDesc) (k : IntKind) (a b : Int) : binV d .rem (.int k a) (.int k b) = if b = 0 then none else some (.int k (a.tmod b)) := by simp [binV, isSh, binI]
theorem binV_eql (d : TypeDesc) (k : IntKind) (a b : Int) : binV d .eql (.int k a) (.int k b) = some (.bool (a == b)) := by simp [binV, isSh, binI]
theorem binV_neq (d : TypeDesc) (k : IntKind) (a b : Int) : binV d .neq (.int k a) (.int k b) = some (.bool (a != b)) := by simp [binV, isSh, binI]
theorem binV_lss (d : TypeDesc) (k : IntKind) (a b : Int) : binV d .lss (.int k a) (.int k b) = some (.bool (decide (a < b))) := by simp [binV, isSh, binI]
theorem binV_leq (d : TypeDesc) (k : IntKind) (a b : Int) : binV d .leq (.int k a) (.int k b) = some (.bool (decide (a ≤ b))) := by simp [binV, isSh, binI]
theorem binV_gtr (d : TypeDesc) (k : IntKind) (a b : Int) : binV d .gtr (.int k a) (.int k b) = some (.bool (decide (b < a))) := by simp [binV, isSh, binI]
theorem binV_geq (d : TypeDesc) (k : IntKind) (a b : Int) : binV d .geq (.int k a) (.int k b) = some (.bool (decide (b ≤ a))) := by simp [binV, isSh, binI]
theorem binV_shl (d : TypeDesc) (k j : IntKind) (a b : Int) : binV d .shl (.int k a) (.int j b) = shV .shl k a b := rfl
theorem binV_shr (d : TypeDesc) (k j : IntKind) (a b : Int) : binV d .shr (.int k a) (.int j b) = shV .shr k a b := rfl
theorem bytes_beq (s t : ByteArray) : (s.toList == t.toList) = decide (s = t) := by
  by_cases h : s = t
  · subst h; simp
  · have : s.toList ≠ t.toList := fun e => h (by
      have e' : s.data.toList = t.data.toList := by rw [← Go.ByteArray.toList_eq, ← Go.ByteArray.toList_eq]; exact e
      exact ByteArray.ext (Array.ext' e'))
    simp [h, this]
theorem binV_seql (d : TypeDesc) (s t : ByteArray) : binV d .eql (.string s) (.string t) = some (.bool (decide (s = t))) := by simp only [binV, binS, bytes_beq]
theorem binV_sneq (d : TypeDesc) (s t : ByteArray) : binV d .neq (.string s) (.string t) = some (.bool (!decide (s = t))) := by simp only [binV, binS, bytes_beq]
theorem binV_slss (d : TypeDesc) (s t : ByteArray) : binV d .lss (.string s) (.string t) = some (.bool (Op.bytesLess s.toList t.toList)) := rfl
theorem binV_beql (x y : Bool) : binV .bool .eql (.bool x) (.bool y) = some (.bool (x == y)) := rfl
theorem binV_bneq (x y : Bool) : binV .bool .neq (.bool x) (.bool y) = some (.bool (x != y)) := by cases x <;> cases y <;> rfl
theorem binV_peql (e : TypeId) (a : Option Addr) : binV (.pointer e) .eql (.pointer a) (.pointer none) = some (.bool a.isNone) := by cases a <;> rfl
theorem binV_pneq (e : TypeId) (a : Option Addr) : binV (.pointer e) .neq (.pointer a) (.pointer none) = some (.bool a.isSome) := by cases a <;> rfl
theorem ixV_at {sz : Nat} {a : Addr} {len cap : Nat} {k : IntKind} {i : Nat} (h : i < len) : ixV sz (.slice (some a) len cap) (.int k i) = some (.pointer (some (a.add (i * sz)))) := by
  simp [ixV, h]
theorem add_add (a : Addr) (m n : Nat) : (a.add m).add n = a.add (m + n) := by
  obtain ⟨b, o, s⟩ := a
  unfold Addr.add
  by_cases hm : m = 0 <;> by_cases hn : n = 0 <;> simp [hm, hn]
  omega
theorem add_none (b o n : Nat) : Addr.add ⟨b, o, none⟩ n = ⟨b, o + n, none⟩ := by
  unfold Addr.add; split <;> simp_all
theorem add_zero (a : Addr) : a.add 0 = a := rfl

/-! ### Control -/
theorem IfB_t (a b : Prop) : IfB (.bool true) a b = a := iff_eq (fun h => h.out) (fun h => ⟨h⟩)
theorem IfB_f (a b : Prop) : IfB (.bool false) a b = b := iff_eq (fun h => h.out) (fun h => ⟨h⟩)
theorem IfB_split {c : Bool} {a b : Prop} (h1 : c = true → a) (h2 : c = false → b) : IfB (.bool c) a b := by
  cases c
  · exact ⟨h2 rfl⟩
  · exact ⟨h1 rfl⟩
theorem Gd_t (X : KV → Prop) (w : World) (k : KV) : Gd true X w k = X k := iff_eq (fun h => h.out) (fun h => ⟨h⟩)
theorem Gd_f (X : KV → Prop) (w : World) (k : KV) : Gd false X w k = k undef w := iff_eq (fun h => h.out) (fun h => ⟨h⟩)
theorem Ld_ptr (w : World) (a : Addr) (k : KV) : Ld w (.pointer (some a)) k = Pu (w.cell? a) (fun u => k u w) := by
  refine iff_eq (fun h => ⟨?_⟩) (fun h => ⟨?_⟩)
  · have := h.out; unfold Ld0 at this; unfold Pu0; cases hc : w.cell? a <;> simp_all
  · have := h.out; unfold Pu0 at this; unfold Ld0; cases hc : w.cell? a <;> simp_all
def cellsV (w : World) (a : Addr) (n : Nat) : Option Value := (cellsAt w a 0 n).map fun l => .agg l.toArray
theorem LdN_ptr (n : Nat) (w : World) (a : Addr) (k : KV) : LdN n w (.pointer (some a)) k = Pu (cellsV w a n) (fun u => k u w) := by
  refine iff_eq (fun h => ⟨?_⟩) (fun h => ⟨?_⟩)
  · have := h.out; unfold LdN0 at this; unfold Pu0 cellsV; cases hc : cellsAt w a 0 n <;> simp_all
  · have := h.out; unfold Pu0 cellsV at this; unfold LdN0; cases hc : cellsAt w a 0 n <;> simp_all
theorem New_eq (cs : Array Value) (t : TypeId) (w : World) (k : KV) : New cs t w k = k (.pointer (some ⟨w.heap.size, 0, none⟩)) (w.alloc (.cells cs t)) := iff_eq (fun h => h.out) (fun h => ⟨h⟩)
theorem St_one {w : World} {a : Addr} {u x : Value} {k : KV} (hu : u.oneCell' = true) (hc : w.cell? a = some x) (hf : w.frozen? a = false) (h : k undef (w.setCell a u)) : St 1 w (.pointer (some a)) u k := by
  refine ⟨?_⟩
  have hcs : u.cells = #[u] := by cases u <;> first | rfl | simp [Value.oneCell'] at hu
  simp only [St0, hcs, List.size_toArray, List.length_cons, List.length_nil, Nat.reduceAdd, Nat.beq_refl, cond_true, stC, hu, add_zero, hc, hf, cond_false]
  exact h
theorem RunS_ok {P : Program} {s : Sem Value} {w w' : World} {v : Value} {k : KV} (h : s.run P w = .ok v w') (hk : k v w') : RunS P s w k := ⟨by unfold RunS0; rw [h]; exact hk⟩
theorem RunU_ok {P : Program} {s : Sem Unit} {w w' : World} {k : KV} (h : s.run P w = .ok () w') (hk : k undef w') : RunU P s w k := ⟨by unfold RunU0; rw [h]; exact hk⟩
theorem ClV_func {P : Program} {g : FuncId} {x y : Array Value} {l : List Value} {w : World} {k : KV} (hb : callB P g = true) (h : Cl P g (x.toList ++ l ++ y.toList) w k) : ClV P (.func (.func g) x y) l w k := ⟨by simp only [ClV0, hb, cond_true]; exact h⟩
/-- Ways that meet: say what holds there. -/
theorem Jn_at {B : List Value → World → Prop} {A : (List Value → World → Prop) → Prop} (J : List Value → World → Prop) (hB : ∀ vs w, J vs w → B vs w) (hA : ∀ kk : List Value → World → Prop, (∀ vs w, J vs w → kk vs w) → A kk) : Jn B A := ⟨hA B hB⟩
theorem drew_heap (w : World) : w.drew.heap = w.heap := rfl
theorem drew_cell (w : World) (a : Addr) : w.drew.cell? a = w.cell? a := rfl

/-! ### Numbers -/
theorem wrap_id {n : Int} (h : -9223372036854775808 ≤ n ∧ n ≤ 9223372036854775807) : IntKind.i64.wrap n = n := by
  unfold IntKind.wrap; simp [IntKind.bits, IntKind.signed]; omega
theorem wrap_succ {i : Nat} (h : (i : Int) < 9223372036854775807) : IntKind.i64.wrap ((i : Int) + 1) = ((i + 1 : Nat) : Int) := by
  rw [wrap_id (by omega)]; rfl
def nth (l : List Value) (j : Nat) : Int := match l[j]? with
  | some (.int _ n) => n
  | _ => 0
theorem nth_0 (k : IntKind) (n : Int) (l : List Value) : nth (.int k n :: l) 0 = n := rfl
theorem nth_1 (a : Value) (k : IntKind) (n : Int) (l : List Value) : nth (a :: .int k n :: l) 1 = n := rfl
theorem nth_2 (a b : Value) (k : IntKind) (n : Int) (l : List Value) : nth (a :: b :: .int k n :: l) 2 = n := rfl
theorem nth_3 (a b c : Value) (k : IntKind) (n : Int) (l : List Value) : nth (a :: b :: c :: .int k n :: l) 3 = n := rfl

/-! ### The rules of a step, as one -/
theorem RS0 : (∀ (v : Value) (k : Value → Prop), Pu (some v) k = k v) ∧
  (∀ (a : Value) (l : List Value), extV (.tuple (List.toArray (a :: l))) 0 = some a) ∧
  (∀ (a b : Value) (l : List Value), extV (.tuple (List.toArray (a :: b :: l))) 1 = some b) ∧
  (∀ (a b c : Value) (l : List Value), extV (.tuple (List.toArray (a :: b :: c :: l))) 2 = some c) ∧
  (∀ (a b c d : Value) (l : List Value), extV (.tuple (List.toArray (a :: b :: c :: d :: l))) 3 = some d) ∧
  (∀ (a : Addr), nilV (.pointer (some a)) = some (.pointer (some a))) ∧
  (∀ (g : FuncId) (x y : Array Value), nilV (.func (.func g) x y) = some (.func (.func g) x y)) ∧
  (∀ (n : Nat) (a : Addr), faV n (.pointer (some a)) = some (.pointer (some (a.add n)))) ∧
  (∀ (a : Option Addr) (n c : Nat), lenV (.slice a n c) = some (.int .i64 n)) :=
  ⟨@Pu_some, @extV_0, @extV_1, @extV_2, @extV_3, @nilV_ptr, @nilV_fn, @faV_ptr, @lenV_sl⟩
theorem RS1 : (∀ (s : ByteArray), lenS (.string s) = some (.int .i64 s.size)) ∧
  (∀ (a : Option Addr) (n c : Nat), capV (.slice a n c) = some (.int .i64 c)) ∧
  (∀ (a b : Value), pickV (.bool true) a b = some a) ∧
  (∀ (a b : Value), pickV (.bool false) a b = some b) ∧
  (∀ (b : Bool), unV .not (.bool b) = some (.bool !b)) ∧
  (∀ (k : IntKind) (n : Int), unV .neg (.int k n) = some (.int k (k.wrap (0 - n)))) ∧
  (∀ (b : Bool), isB true (.bool b) = b) ∧
  (∀ (b : Bool), isB false (.bool b) = !b) ∧
  (∀ (b : Bool), isB b undef = false) :=
  ⟨@lenS_s, @capV_sl, @pickV_t, @pickV_f, @unV_not, @unV_neg, @isB_t, @isB_f, @isB_u⟩
theorem RS2 : (∀ (d : TypeDesc) (k : IntKind) (a b : Int), binV d .add (.int k a) (.int k b) = some (.int k (k.wrap (a + b)))) ∧
  (∀ (d : TypeDesc) (k : IntKind) (a b : Int), binV d .sub (.int k a) (.int k b) = some (.int k (k.wrap (a - b)))) ∧
  (∀ (d : TypeDesc) (k : IntKind) (a b : Int), binV d .mul (.int k a) (.int k b) = some (.int k (k.wrap (a * b)))) ∧
  (∀ (d : TypeDesc) (k : IntKind) (a b : Int), binV d .eql (.int k a) (.int k b) = some (.bool (a == b))) ∧
  (∀ (d : TypeDesc) (k : IntKind) (a b : Int), binV d .neq (.int k a) (.int k b) = some (.bool (a != b))) ∧
  (∀ (d : TypeDesc) (k : IntKind) (a b : Int), binV d .lss (.int k a) (.int k b) = some (.bool (decide (a < b)))) ∧
  (∀ (d : TypeDesc) (k : IntKind) (a b : Int), binV d .leq (.int k a) (.int k b) = some (.bool (decide (a ≤ b)))) ∧
  (∀ (d : TypeDesc) (k : IntKind) (a b : Int), binV d .gtr (.int k a) (.int k b) = some (.bool (decide (b < a)))) ∧
  (∀ (d : TypeDesc) (k : IntKind) (a b : Int), binV d .geq (.int k a) (.int k b) = some (.bool (decide (b ≤ a)))) :=
  ⟨@binV_add, @binV_sub, @binV_mul, @binV_eql, @binV_neq, @binV_lss, @binV_leq, @binV_gtr, @binV_geq⟩
theorem RS3 : (∀ (d : TypeDesc) (s t : ByteArray), binV d .eql (.string s) (.string t) = some (.bool (decide (s = t)))) ∧
  (∀ (d : TypeDesc) (s t : ByteArray), binV d .neq (.string s) (.string t) = some (.bool (!decide (s = t)))) ∧
  (∀ (d : TypeDesc) (s t : ByteArray), binV d .lss (.string s) (.string t) = some (.bool (Op.bytesLess s.toList t.toList))) ∧
  (∀ (x y : Bool), binV .bool .eql (.bool x) (.bool y) = some (.bool (x == y))) ∧
  (∀ (x y : Bool), binV .bool .neq (.bool x) (.bool y) = some (.bool (x != y))) ∧
  (∀ (e : TypeId) (a : Option Addr), binV (.pointer e) .eql (.pointer a) (.pointer none) = some (.bool a.isNone)) ∧
  (∀ (e : TypeId) (a : Option Addr), binV (.pointer e) .neq (.pointer a) (.pointer none) = some (.bool a.isSome)) ∧
  (∀ (a : Addr) (m n : Nat), (a.add m).add n = a.add (m + n)) ∧
  (∀ (b o n : Nat), Addr.add ⟨b, o, none⟩ n = ⟨b, o + n, none⟩) :=
  ⟨@binV_seql, @binV_sneq, @binV_slss, @binV_beql, @binV_bneq, @binV_peql, @binV_pneq, @add_add, @add_none⟩
theorem RS4 : (∀ (a : Addr), a.add 0 = a) ∧
  (∀ n : Nat, 0 + n = n) ∧
  (∀ n : Nat, n + 0 = n) ∧
  (∀ (a b : Prop), IfB (.bool true) a b = a) ∧
  (∀ (a b : Prop), IfB (.bool false) a b = b) ∧
  (∀ (X : KV → Prop) (w : World) (k : KV), Gd true X w k = X k) ∧
  (∀ (X : KV → Prop) (w : World) (k : KV), Gd false X w k = k undef w) ∧
  (∀ (w : World) (a : Addr) (k : KV), Ld w (.pointer (some a)) k = Pu (w.cell? a) (fun u => k u w)) ∧
  (∀ (n : Nat) (w : World) (a : Addr) (k : KV), LdN n w (.pointer (some a)) k = Pu (cellsV w a n) (fun u => k u w)) :=
  ⟨@Go.Al.add_zero, @Nat.zero_add, @Nat.add_zero, @IfB_t, @IfB_f, @Gd_t, @Gd_f, @Ld_ptr, @LdN_ptr⟩
theorem RS5 : (∀ {α : Type} {a : α}, (some a).isNone = false) ∧
  (∀ {α : Type}, (none : Option α).isNone = true) ∧
  (∀ {α : Type} {a : α}, (some a).isSome = true) ∧
  (∀ {α : Type}, (none : Option α).isSome = false) ∧
  ((!true) = false) ∧
  ((!false) = true) ∧
  (∀ (w : World) (a : Addr), w.drew.cell? a = w.cell? a) ∧
  (∀ (w : World), w.drew.heap = w.heap) :=
  ⟨@Option.isNone_some, @Option.isNone_none, @Option.isSome_some, @Option.isSome_none, @Bool.not_true, @Bool.not_false, @drew_cell, @drew_heap⟩

end Go.Al
