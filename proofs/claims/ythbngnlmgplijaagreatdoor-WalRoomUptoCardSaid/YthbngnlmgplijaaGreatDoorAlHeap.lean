/- Facts on the heap: what stays; maps whose keys are numbers or texts. -/
import Derived.Test.YthbngnlmgplijaaGreatDoorAlRules
import Derived.Maps.RangeRun
import Derived.MapKept
namespace Go.Al
set_option linter.unusedVariables false
set_option linter.unusedSimpArgs false
set_option linter.unusedSectionVars false
open Go.RowKit (Below)
open Go.ChangeMaps (setBlock)

/-- Of the blocks that were there those outside S are as they were; so are the streams. -/
structure Fm (S : Nat → Prop) (w w' : World) : Prop where
  os : w'.os = w.os
  tape : w'.tape = w.tape
  output : w'.output = w.output
  size : w.heap.size ≤ w'.heap.size
  block : ∀ b, b < w.heap.size → ¬ S b → w'.heap[b]? = w.heap[b]?

theorem Fm.refl (S : Nat → Prop) (w : World) : Fm S w w := ⟨rfl, rfl, rfl, Nat.le_refl _, fun _ _ _ => rfl⟩
theorem Fm.trans {S T U : Nat → Prop} {a b c : World} (h : Fm S a b) (k : Fm T b c) (hS : ∀ x, x < a.heap.size → S x → U x) (hT : ∀ x, x < a.heap.size → T x → U x) : Fm U a c :=
  ⟨k.os.trans h.os, k.tape.trans h.tape, k.output.trans h.output, Nat.le_trans h.size k.size, fun x hx hu => (k.block x (Nat.lt_of_lt_of_le hx h.size) (fun t => hu (hT x hx t))).trans (h.block x hx (fun s => hu (hS x hx s)))⟩
theorem Fm.mono {S T : Nat → Prop} {a b : World} (h : Fm S a b) (hS : ∀ x, x < a.heap.size → S x → T x) : Fm T a b := ⟨h.os, h.tape, h.output, h.size, fun x hx ht => h.block x hx fun s => ht (hS x hx s)⟩
theorem Fm.alloc (S : Nat → Prop) (w : World) (o : Obj) : Fm S w (w.alloc o) := ⟨rfl, rfl, rfl, by simp, fun b hb _ => by
  show (w.heap.push o)[b]? = _
  rw [Array.getElem?_push, if_neg (by omega)]⟩
theorem Fm.drew (S : Nat → Prop) (w : World) : Fm S w w.drew := ⟨rfl, rfl, rfl, Nat.le_refl _, fun _ _ _ => rfl⟩
theorem Fm.setBlock {S : Nat → Prop} (w : World) (r : Nat) (o : Obj) (hr : S r) : Fm S w (setBlock w r o) := ⟨rfl, rfl, rfl, by simp [ChangeMaps.setBlock], fun b hb hs => by
  simp only [ChangeMaps.setBlock]
  rw [Array.getElem?_setIfInBounds_ne (by rintro rfl; exact hs hr)]⟩
theorem Fm.setCell {S : Nat → Prop} (w : World) (a : Addr) (v : Value) (hr : S a.block) : Fm S w (w.setCell a v) := ⟨rfl, rfl, rfl, by simp [World.setCell], fun b hb hs => by
  simp only [World.setCell, Array.getElem?_modify]
  rw [if_neg (by rintro rfl; exact hs hr)]⟩
theorem Fm.grown {S : Nat → Prop} {w w' : World} {row : Option Nat} (h : w.grownBy w' row) (hr : ∀ k, row = some k → k < w.heap.size → S k) : Fm S w w' :=
  ⟨h.os, h.tape, h.output, h.size, fun b hb hs => h.block b hb fun e => hs (hr b e.symm hb)⟩
theorem Fm.below {w w' : World} (h : Fm (fun _ => False) w w') : Below w.heap.size w w' := ⟨h.os, h.tape, h.output, h.size, fun b hb => h.block b hb (fun e => e)⟩
theorem Fm.of_below {w w' : World} (h : Below w.heap.size w w') (S : Nat → Prop) : Fm S w w' := ⟨h.os, h.tape, h.output, h.size, fun b hb _ => h.block b hb⟩
theorem Fm.cell {S : Nat → Prop} {w w' : World} (h : Fm S w w') {a : Addr} (ha : a.block < w.heap.size) (hs : ¬ S a.block) : w'.cell? a = w.cell? a := World.cell?_of_block (w := w) (h.block a.block ha hs)
theorem Fm.cell' {S : Nat → Prop} {w w' : World} (h : Fm S w w') {a : Addr} {v : Value} (hv : w.cell? a = some v) (hs : ¬ S a.block) : w'.cell? a = some v := by
  have : a.block < w.heap.size := by
    unfold World.cell? at hv
    cases hb : w.heap[a.block]? with
    | none => simp [hb] at hv
    | some o => exact (Array.getElem?_eq_some_iff.1 hb).1
  rw [h.cell this hs]; exact hv
theorem lt_of_heap {w : World} {b : Nat} {o : Obj} (h : w.heap[b]? = some o) : b < w.heap.size := (Array.getElem?_eq_some_iff.1 h).1
theorem Fm.heap {S : Nat → Prop} {w w' : World} (h : Fm S w w') {b : Nat} {o : Obj} (hb : w.heap[b]? = some o) (hs : ¬ S b) : w'.heap[b]? = some o := by rw [h.block b (lt_of_heap hb) hs]; exact hb
theorem alloc_new (w : World) (o : Obj) : (w.alloc o).heap[w.heap.size]? = some o := (MapKept.heap_alloc w o).1
theorem alloc_size (w : World) (o : Obj) : (w.alloc o).heap.size = w.heap.size + 1 := by simp
theorem cell_at {w : World} {b off : Nat} {cs : Array Value} {t : TypeId} {fz : Nat × Nat} (h : w.heap[b]? = some (.cells cs t fz)) : w.cell? ⟨b, off, none⟩ = cs[off]? := by
  unfold World.cell?; simp [h]
theorem setBlock_at {w : World} {b : Nat} {o o' : Obj} (h : w.heap[b]? = some o') : (setBlock w b o).heap[b]? = some o := by
  simp [ChangeMaps.setBlock, lt_of_heap h]
theorem setBlock_size (w : World) (b : Nat) (o : Obj) : (setBlock w b o).heap.size = w.heap.size := by simp [ChangeMaps.setBlock]

/-- The rule for a new block of cells: its number, and that all else is as it was. -/
theorem New_any {cs : Array Value} {t : TypeId} {w : World} {k : KV} (h : ∀ b w', b = w.heap.size → w'.heap.size = w.heap.size + 1 → w'.heap[b]? = some (.cells cs t) → Fm (fun _ => False) w w' → k (.pointer (some ⟨b, 0, none⟩)) w') : New cs t w k := by
  rw [New_eq]
  exact h _ _ rfl (alloc_size _ _) (alloc_new _ _) (Fm.alloc _ _ _)

/-! ### Maps -/

theorem eraseIdx_mp {α β : Type} (f : α → β) : ∀ (l : List α) (i : Nat), (l.map f).eraseIdx i = (l.eraseIdx i).map f
  | [], i => by simp
  | x :: l, 0 => by simp
  | x :: l, i + 1 => by simp [eraseIdx_mp f l i]

/-- What a type's keys are made of. -/
structure KeyT (P : Program) (t : TypeId) (kt et : TypeId) {α : Type} (kv : α → Value) : Prop where
  map : P.underlying t = some (.map kt et)
  now : ∃ d, P.underlying kt = some d ∧ (∀ a b, ∃ r, Instr.sameNow d (kv a) (kv b) = some r ∧ (r = true ↔ a = b)) ∧ ∀ w a e, (Instr.checkKey e 10000 kt (kv a)).run P w = .ok () w
  bits : ∀ a n, Instr.sameBits n (kv a) (kv a) = true
  inj : ∀ a b, kv a = kv b → a = b

theorem keyT_int {P : Program} {t kt et : TypeId} {q : IntKind} (h : P.underlying t = some (.map kt et)) (hk : P.underlying kt = some (.int q)) : KeyT P t kt et (Value.int q) where
  map := h
  now := ⟨_, hk, fun a b => ⟨a == b, by simp [Instr.sameNow], by simp⟩, fun w a e => by
    rw [Instr.checkKey]
    simp only [Sem.run_bind, run_underlying hk, Result.andThen_ok, Sem.run_pure]⟩
  bits := fun a n => by cases n <;> simp [Instr.sameBits]
  inj := fun a b h => by cases h; rfl
theorem keyT_str {P : Program} {t kt et : TypeId} (h : P.underlying t = some (.map kt et)) (hk : P.underlying kt = some .string) : KeyT P t kt et Value.string where
  map := h
  now := ⟨_, hk, fun a b => ⟨a == b, by simp [Instr.sameNow], MapKept.bytes_beq a b⟩, fun w a e => by
    rw [Instr.checkKey]
    simp only [Sem.run_bind, run_underlying hk, Result.andThen_ok, Sem.run_pure]⟩
  bits := fun a n => by cases n <;> simp [Instr.sameBits, MapKept.bytes_beq]
  inj := fun a b h => by cases h; rfl

variable {α β : Type} [DecidableEq α]

/-- Block b is a map that holds the pairs of D. -/
structure MapAt (w : World) (b : Nat) (kv : α → Value) (vv : β → Value) (D : List (α × β)) : Prop where
  ex : ∃ es clock, w.heap[b]? = some (.map es clock) ∧ es.toList.map (fun e => (e.key, e.val)) = D.map (fun p => (kv p.1, vv p.2)) ∧ (es.toList.map (·.born)).Nodup ∧ ∀ e ∈ es.toList, e.born < clock
  keys : (D.map (·.1)).Nodup

def getD (D : List (α × β)) (a : α) : Option β := (D.find? (fun p => decide (p.1 = a))).map (·.2)
def setD : List (α × β) → α → β → List (α × β)
  | [], a, b => [(a, b)]
  | p :: l, a, b => if p.1 = a then (a, b) :: l else p :: setD l a b
def delD : List (α × β) → α → List (α × β)
  | [], _ => []
  | p :: l, a => if p.1 = a then l else p :: delD l a

theorem getD_cons (p : α × β) (D : List (α × β)) (x : α) : getD (p :: D) x = if p.1 = x then some p.2 else getD D x := by
  unfold getD
  rw [List.find?_cons]
  by_cases h : p.1 = x <;> simp [h]
theorem getD_nil (x : α) : getD ([] : List (α × β)) x = none := rfl
theorem getD_setD (D : List (α × β)) (a : α) (b : β) (x : α) : getD (setD D a b) x = if x = a then some b else getD D x := by
  induction D with
  | nil => rw [setD, getD_cons, getD_nil]; by_cases h : a = x <;> simp [h, eq_comm]
  | cons p l ih =>
    rw [setD]
    by_cases hp : p.1 = a
    · rw [if_pos hp, getD_cons, getD_cons]; subst hp; by_cases h : p.1 = x
      · simp [h]
      · have h' : ¬ x = p.1 := fun e => h e.symm
        simp [h, h']
    · rw [if_neg hp, getD_cons, getD_cons, ih]
      by_cases h : p.1 = x
      · have : x ≠ a := fun e => hp (h.trans e); simp [h, this]
      · simp [h]
theorem keys_setD (D : List (α × β)) (a : α) (b : β) : (setD D a b).map (·.1) = if a ∈ D.map (·.1) then D.map (·.1) else D.map (·.1) ++ [a] := by
  induction D with
  | nil => simp [setD]
  | cons p l ih =>
    rw [setD]
    by_cases hp : p.1 = a
    · subst hp; simp
    · have hp' : ¬ a = p.1 := fun e => hp e.symm
      simp only [if_neg hp, List.map_cons, ih, List.mem_cons, hp', false_or]
      split <;> simp
theorem nodup_setD {D : List (α × β)} (h : (D.map (·.1)).Nodup) (a : α) (b : β) : ((setD D a b).map (·.1)).Nodup := by
  rw [keys_setD]
  split
  · exact h
  · rename_i hn; rw [List.nodup_append]; exact ⟨h, by simp, fun x hx y hy => by simp at hy; subst hy; rintro rfl; exact hn hx⟩
theorem getD_none {D : List (α × β)} {a : α} : getD D a = none ↔ a ∉ D.map (·.1) := by
  unfold getD
  rw [Option.map_eq_none_iff, List.find?_eq_none]
  simp only [decide_eq_true_eq, List.mem_map, not_exists, not_and]
theorem keys_delD (D : List (α × β)) (a : α) : (delD D a).map (·.1) = (D.map (·.1)).erase a := by
  induction D with
  | nil => rfl
  | cons p l ih =>
    rw [delD, List.map_cons, List.erase_cons]
    by_cases hp : p.1 = a
    · simp [hp]
    · have : (p.1 == a) = false := by simpa using hp
      simp [hp, ih]
theorem nodup_delD {D : List (α × β)} (h : (D.map (·.1)).Nodup) (a : α) : ((delD D a).map (·.1)).Nodup := by rw [keys_delD]; exact h.erase a
theorem getD_delD {D : List (α × β)} (h : (D.map (·.1)).Nodup) (a x : α) : getD (delD D a) x = if x = a then none else getD D x := by
  induction D with
  | nil => simp [delD, getD_nil]
  | cons p l ih =>
    rw [List.map_cons, List.nodup_cons] at h
    rw [delD]
    by_cases hp : p.1 = a
    · rw [if_pos hp, getD_cons]
      by_cases hx : x = a
      · subst hx; rw [if_pos rfl, getD_none]; rw [← hp]; exact h.1
      · rw [if_neg hx, if_neg (fun e => hx (e.symm.trans hp))]
    · rw [if_neg hp, getD_cons, getD_cons, ih h.2]
      by_cases hx : p.1 = x
      · have : x ≠ a := fun e => hp (hx.trans e)
        simp [hx, this]
      · simp [hx]
theorem getD_some {D : List (α × β)} (h : (D.map (·.1)).Nodup) {a : α} {b : β} : getD D a = some b ↔ (a, b) ∈ D := by
  induction D with
  | nil => simp [getD_nil]
  | cons p l ih =>
    rw [List.map_cons, List.nodup_cons] at h
    rw [getD_cons, List.mem_cons]
    by_cases hp : p.1 = a
    · rw [if_pos hp]
      constructor
      · intro e; cases e; exact .inl (by rw [← hp])
      · rintro (e | e)
        · cases e; rfl
        · exact absurd (List.mem_map.2 ⟨(a, b), e, rfl⟩) (by rw [← hp]; exact h.1)
    · rw [if_neg hp, ih h.2]
      constructor
      · exact .inr
      · rintro (e | e)
        · cases e; exact absurd rfl hp
        · exact e

theorem MapAt.lt {w : World} {b : Nat} {kv : α → Value} {vv : β → Value} {D : List (α × β)} (h : MapAt w b kv vv D) : b < w.heap.size := by
  obtain ⟨es, c, hb, _⟩ := h.ex; exact lt_of_heap hb
theorem MapAt.keep {S : Nat → Prop} {w w' : World} {b : Nat} {kv : α → Value} {vv : β → Value} {D : List (α × β)} (h : MapAt w b kv vv D) (hf : Fm S w w') (hs : ¬ S b) : MapAt w' b kv vv D := by
  obtain ⟨es, c, hb, r⟩ := h.ex
  exact ⟨⟨es, c, hf.heap hb hs, r⟩, h.keys⟩
theorem MapAt.empty (w : World) (kv : α → Value) (vv : β → Value) : MapAt (w.alloc (.map #[] 0)) w.heap.size kv vv [] := ⟨⟨#[], 0, alloc_new _ _, rfl, by simp, by simp⟩, by simp⟩

/-- The place of a key among entries. -/
theorem findNow_eq {P : Program} {t kt et : TypeId} {kv : α → Value} (K : KeyT P t kt et kv) {vv : β → Value} (a : α) {d : TypeDesc} (hd : P.underlying kt = some d) : ∀ (es : List MapEntry) (D : List (α × β)) (i : Nat),
    es.map (fun e => (e.key, e.val)) = D.map (fun p => (kv p.1, vv p.2)) →
    (getD D a = none ∧ Instr.findNow d (kv a) es i = some none) ∨ (∃ j b, getD D a = some b ∧ Instr.findNow d (kv a) es i = some (some (i + j, vv b)) ∧ j < es.length ∧ (es[j]?.map (·.key)) = some (kv a) ∧ (D.map (·.1))[j]? = some a ∧ ∀ l, l < j → (D.map (·.1))[l]? ≠ some a) := by
  intro es
  obtain ⟨d', hd', hs, _⟩ := K.now
  rw [hd] at hd'; cases hd'
  induction es with
  | nil => intro D i h; cases D with | nil => exact .inl ⟨rfl, rfl⟩ | cons _ _ => simp at h
  | cons e es ih =>
    intro D i h
    cases D with
    | nil => simp at h
    | cons p D =>
      simp only [List.map_cons, List.cons.injEq, Prod.mk.injEq] at h
      obtain ⟨⟨h1, h2⟩, h3⟩ := h
      obtain ⟨r, hr, hiff⟩ := hs a p.1
      rw [getD_cons]
      by_cases hp : p.1 = a
      · have hrt : r = true := hiff.2 hp.symm
        refine .inr ⟨0, p.2, by rw [if_pos hp], ?_, by simp, by simp [h1, hp], by simp [hp], fun l hl => absurd hl (Nat.not_lt_zero _)⟩
        simp only [Instr.findNow, h1, hr, hrt, h2, Nat.add_zero]
      · have hrf : r = false := by cases r with | false => rfl | true => exact absurd (hiff.1 rfl).symm hp
        rw [if_neg hp]
        have hstep : Instr.findNow d (kv a) (e :: es) i = Instr.findNow d (kv a) es (i + 1) := by simp only [Instr.findNow, h1, hr, hrf]
        rw [hstep]
        rcases ih D (i + 1) h3 with ⟨g1, g2⟩ | ⟨j, b, g1, g2, g3, g4, g5, g6⟩
        · exact .inl ⟨g1, g2⟩
        · refine .inr ⟨j + 1, b, g1, by rw [g2, show i + 1 + j = i + (j + 1) by omega], by simpa using g3, by simpa using g4, by simpa using g5, fun l hl => ?_⟩
          cases l with
          | zero => simpa using fun e => hp e
          | succ l => simpa using g6 l (by omega)

theorem findKey_run {P : Program} {t kt et : TypeId} {kv : α → Value} (K : KeyT P t kt et kv) {vv : β → Value} (a : α) {es : List MapEntry} {D : List (α × β)} (w : World)
    (h : es.map (fun e => (e.key, e.val)) = D.map (fun p => (kv p.1, vv p.2))) :
    (getD D a = none ∧ (Instr.findKey kt (kv a) es).run P w = .ok none w) ∨ (∃ j b, getD D a = some b ∧ (Instr.findKey kt (kv a) es).run P w = .ok (some (j, vv b)) w ∧ j < es.length ∧ (es[j]?.map (·.key)) = some (kv a) ∧ (D.map (·.1))[j]? = some a ∧ ∀ l, l < j → (D.map (·.1))[l]? ≠ some a) := by
  obtain ⟨d, hd, _⟩ := K.now
  unfold Instr.findKey
  simp only [Sem.run_bind, run_underlying hd, Result.andThen_ok]
  rcases findNow_eq K a hd es D 0 h with ⟨g1, g2⟩ | ⟨j, b, g1, g2, g3⟩
  · exact .inl ⟨g1, by rw [g2]; rfl⟩
  · exact .inr ⟨j, b, g1, by rw [g2, Nat.zero_add]; rfl, g3⟩

theorem run_getObj_map {P : Program} {w : World} {b : Nat} {es : Array MapEntry} {c : Nat} (h : w.heap[b]? = some (.map es c)) : (getObj b).run P w = .ok (.map es c) w := by simp [getObj, Sem.run, h]
theorem run_setObj_map {P : Program} {w : World} {b : Nat} {es : Array MapEntry} {c : Nat} (h : w.heap[b]? = some (.map es c)) (o : Obj) : (setObj b o).run P w = .ok () (setBlock w b o) := by simp [setObj, Sem.run, h, ChangeMaps.setBlock]

def okV (ok : Bool) (v : Value) (is : Bool) : Value := bif ok then .tuple #[v, .bool is] else v

theorem lookup_run {P : Program} {t kt et : TypeId} {kv : α → Value} (K : KeyT P t kt et kv) {vv : β → Value} {w : World} {b : Nat} {D : List (α × β)} (h : MapAt w b kv vv D) (a : α) (ok : Bool) {z : Value} (hz : (zeroValue et).run P w = .ok z w) :
    (Instr.lookup t (.map (some b)) (kv a) ok).run P w = .ok (match getD D a with
      | some v => okV ok (vv v) true
      | none => okV ok z false) w := by
  obtain ⟨es, c, hb, he, _⟩ := h.ex
  obtain ⟨d, hd, _, hc⟩ := K.now
  unfold Instr.lookup
  simp only [Sem.run_bind, run_underlying K.map, Result.andThen_ok, run_getObj_map hb, Sem.run_pure, hc]
  rcases findKey_run K a w he with ⟨g1, g2⟩ | ⟨j, v, g1, g2, _⟩
  · rw [g2, g1]; simp [hz]; cases ok <;> rfl
  · rw [g2, g1]; simp; cases ok <;> rfl

theorem setD_at (D : List (α × β)) (a : α) (v : β) : ∀ j, (D.map (·.1))[j]? = some a → (∀ l, l < j → (D.map (·.1))[l]? ≠ some a) → setD D a v = D.modify j (fun _ => (a, v)) := by
  induction D with
  | nil => intro j h _; simp at h
  | cons p l ih =>
    intro j h hn
    rw [setD]
    cases j with
    | zero => simp at h; simp [h]
    | succ j =>
      have : p.1 ≠ a := by have := hn 0 (by omega); simpa using this
      rw [if_neg this, List.modify_succ_cons, ih j (by simpa using h) (fun l hl => by have := hn (l + 1) (by omega); simpa using this)]
theorem setD_new (D : List (α × β)) (a : α) (v : β) (h : getD D a = none) : setD D a v = D ++ [(a, v)] := by
  induction D with
  | nil => rfl
  | cons p l ih =>
    rw [getD_cons] at h
    rw [setD]
    by_cases hp : p.1 = a
    · rw [if_pos hp] at h; cases h
    · rw [if_neg hp] at h ⊢; rw [ih h]; rfl
theorem delD_at (D : List (α × β)) (a : α) : ∀ j, (D.map (·.1))[j]? = some a → (∀ l, l < j → (D.map (·.1))[l]? ≠ some a) → delD D a = D.eraseIdx j := by
  induction D with
  | nil => intro j h _; simp at h
  | cons p l ih =>
    intro j h hn
    rw [delD]
    cases j with
    | zero => simp at h; simp [h]
    | succ j =>
      have : p.1 ≠ a := by have := hn 0 (by omega); simpa using this
      rw [if_neg this, List.eraseIdx_cons_succ, ih j (by simpa using h) (fun l hl => by have := hn (l + 1) (by omega); simpa using this)]
theorem delD_none (D : List (α × β)) (a : α) (h : getD D a = none) : delD D a = D := by
  induction D with
  | nil => rfl
  | cons p l ih =>
    rw [getD_cons] at h
    rw [delD]
    by_cases hp : p.1 = a
    · rw [if_pos hp] at h; cases h
    · rw [if_neg hp] at h ⊢; rw [ih h]

theorem update_run {P : Program} {t kt et : TypeId} {kv : α → Value} (K : KeyT P t kt et kv) {vv : β → Value} {w : World} {b : Nat} {D : List (α × β)} (h : MapAt w b kv vv D) (a : α) (v : β) :
    ∃ w', (Instr.mapUpdate t (.map (some b)) (kv a) (vv v)).run P w = .ok () w' ∧ MapAt w' b kv vv (setD D a v) ∧ Fm (· = b) w w' ∧ w'.heap.size = w.heap.size := by
  obtain ⟨es, c, hb, he, hn, hlt⟩ := h.ex
  obtain ⟨d, hd, _, hc⟩ := K.now
  unfold Instr.mapUpdate
  simp only [Sem.run_bind, run_underlying K.map, Result.andThen_ok, run_getObj_map hb, hc]
  rcases findKey_run K a w he with ⟨g1, g2⟩ | ⟨j, u, g1, g2, g3, g4, g5, g6⟩
  · rw [g2]
    simp only [Result.andThen_ok, run_setObj_map hb]
    refine ⟨_, rfl, ⟨⟨_, _, setBlock_at hb, ?_, ?_, ?_⟩, nodup_setD h.keys a v⟩, Fm.setBlock _ _ _ rfl, setBlock_size _ _ _⟩
    · rw [setD_new D a v g1]; simp [he]
    · simp only [Array.toList_push, List.map_append, List.map_cons, List.map_nil]
      rw [List.nodup_append]
      refine ⟨hn, by simp, fun x hx y hy => ?_⟩
      simp at hy
      subst hy
      obtain ⟨e, he', rfl⟩ := List.mem_map.1 hx
      have := hlt e he'
      omega
    · intro e he'
      simp only [Array.toList_push, List.mem_append, List.mem_singleton] at he'
      rcases he' with he' | rfl
      · have := hlt e he'; omega
      · simp
  · rw [g2]
    have hkey : ((es[j]?).map (·.key)).getD (kv a) = kv a := by
      have : es[j]? = es.toList[j]? := by simp
      rw [this, g4]; rfl
    simp only [Result.andThen_ok, Sem.run_bind, hkey, Instr.keyThatStays, K.bits, if_true, Sem.run_pure, run_setObj_map hb]
    have hmod : (es.modify j fun e => { e with key := kv a, val := vv v }).toList = es.toList.modify j (fun e => { e with key := kv a, val := vv v }) := by simp
    have hb1 : ∀ (l : List MapEntry) (j : Nat), (l.modify j (fun e => { e with key := kv a, val := vv v })).map (·.born) = l.map (·.born) := by
      intro l
      induction l with
      | nil => intro j; simp
      | cons e l ih => intro j; cases j <;> simp [ih]
    have hb2 : ∀ (l : List MapEntry) (D : List (α × β)) (j : Nat), l.map (fun e => (e.key, e.val)) = D.map (fun p => (kv p.1, vv p.2)) →
        (l.modify j (fun e => { e with key := kv a, val := vv v })).map (fun e => (e.key, e.val)) = (D.modify j (fun _ => (a, v))).map (fun p => (kv p.1, vv p.2)) := by
      intro l
      induction l with
      | nil => intro D j h; cases D <;> simp_all
      | cons e l ih =>
        intro D j h
        cases D with
        | nil => simp at h
        | cons p D =>
          simp only [List.map_cons, List.cons.injEq] at h
          cases j with
          | zero => simp [h.2]
          | succ j => simp [h.1, ih D j h.2]
    refine ⟨_, rfl, ⟨⟨_, _, setBlock_at hb, ?_, ?_, ?_⟩, nodup_setD h.keys a v⟩, Fm.setBlock _ _ _ rfl, setBlock_size _ _ _⟩
    · rw [hmod, hb2 _ _ _ he, setD_at D a v j g5 g6]
    · rw [hmod, hb1]; exact hn
    · intro e he'
      rw [hmod] at he'
      have : e.born ∈ (es.toList.modify j (fun e => { e with key := kv a, val := vv v })).map (·.born) := List.mem_map.2 ⟨e, he', rfl⟩
      rw [hb1] at this
      obtain ⟨e', h1, h2⟩ := List.mem_map.1 this
      rw [← h2]; exact hlt e' h1

theorem delete_run {P : Program} {t kt et : TypeId} {kv : α → Value} (K : KeyT P t kt et kv) {vv : β → Value} {w : World} {b : Nat} {D : List (α × β)} (h : MapAt w b kv vv D) (a : α) (ty u : TypeId) :
    ∃ w', (Builtin.delete_ #[t, u] ty #[.map (some b), kv a]).run P w = .ok (.tuple #[]) w' ∧ MapAt w' b kv vv (delD D a) ∧ Fm (· = b) w w' ∧ w'.heap.size = w.heap.size := by
  obtain ⟨es, c, hb, he, hn, hlt⟩ := h.ex
  obtain ⟨d, hd, _, hc⟩ := K.now
  unfold Builtin.delete_
  simp only [List.getElem?_toArray, List.getElem?_cons_zero, List.getElem?_cons_succ, Sem.run_bind, run_underlying K.map, Result.andThen_ok, run_getObj_map hb, hc]
  rcases findKey_run K a w he with ⟨g1, g2⟩ | ⟨j, u, g1, g2, g3, g4, g5, g6⟩
  · rw [g2]
    simp only [Result.andThen_ok, Sem.run_bind, run_setObj_map hb, Sem.run_pure]
    exact ⟨_, rfl, ⟨⟨_, _, setBlock_at hb, by rw [delD_none D a g1]; exact he, hn, hlt⟩, nodup_delD h.keys a⟩, Fm.setBlock _ _ _ rfl, setBlock_size _ _ _⟩
  · rw [g2]
    simp only [Result.andThen_ok, Sem.run_bind, run_setObj_map hb, Sem.run_pure]
    have hl : (es.eraseIdxIfInBounds j).toList = es.toList.eraseIdx j := by simp
    refine ⟨_, rfl, ⟨⟨_, _, setBlock_at hb, ?_, ?_, ?_⟩, nodup_delD h.keys a⟩, Fm.setBlock _ _ _ rfl, setBlock_size _ _ _⟩
    · rw [hl, delD_at D a j g5 g6, ← eraseIdx_mp, ← eraseIdx_mp, he]
    · rw [hl, ← eraseIdx_mp]; exact hn.sublist (List.eraseIdx_sublist _ _)
    · intro e he'
      rw [hl] at he'
      exact hlt e (List.mem_of_mem_eraseIdx he')

theorem makeMap_run {P : Program} (t : TypeId) (w : World) : (Instr.makeMap t none).run P w = .ok (.map (some w.heap.size)) (w.alloc (.map #[] 0)) := by
  simp [Instr.makeMap, newObj, Sem.run]

/-! ### Ranging -/

/-- Iterator r over the map b, in which D stands: the pairs of 'left' are still to come. -/
structure RangeAt (w : World) (r b : Nat) (kv : α → Value) (vv : β → Value) (D : List (α × β)) (left : List (α × β)) : Prop where
  ex : ∃ es clock since seen, w.heap[b]? = some (.map es clock) ∧ w.heap[r]? = some (.mapIter (some b) since seen clock) ∧ es.toList.map (fun e => (e.key, e.val)) = D.map (fun p => (kv p.1, vv p.2)) ∧ (es.toList.map (·.born)).Nodup ∧ (∀ e ∈ es.toList, e.born < since) ∧ since ≤ clock ∧
    (leftOf es seen).toList.map (fun e => (e.key, e.val)) = left.map (fun p => (kv p.1, vv p.2))

theorem RangeAt.keep {S : Nat → Prop} {w w' : World} {r b : Nat} {kv : α → Value} {vv : β → Value} {D left : List (α × β)} (h : RangeAt w r b kv vv D left) (hf : Fm S w w') (hr : ¬ S r) (hb : ¬ S b) : RangeAt w' r b kv vv D left := by
  obtain ⟨es, c, s, sn, h1, h2, h3⟩ := h.ex
  exact ⟨es, c, s, sn, hf.heap h1 hb, hf.heap h2 hr, h3⟩

theorem range_run {P : Program} {t kt et : TypeId} (ht : P.underlying t = some (.map kt et)) {kv : α → Value} {vv : β → Value} {w : World} {b : Nat} {D : List (α × β)} (h : MapAt w b kv vv D) :
    ∃ w', (Instr.range t (.map (some b))).run P w = .ok (.pointer (some ⟨w.heap.size, 0, none⟩)) w' ∧ RangeAt w' w.heap.size b kv vv D D ∧ Fm (fun _ => False) w w' ∧ w'.heap.size = w.heap.size + 1 := by
  obtain ⟨es, c, hb, he, hn, hlt⟩ := h.ex
  unfold Instr.range
  simp only [Sem.run_bind, run_underlying ht, Result.andThen_ok, run_getObj_map hb, Sem.run_pure, run_newObj]
  refine ⟨_, rfl, ⟨es, c, c, #[], (Fm.alloc (fun _ => False) w _).heap hb (fun e => e), alloc_new _ _, he, hn, hlt, Nat.le_refl _, ?_⟩, Fm.alloc _ _ _, alloc_size _ _⟩
  rw [← he]
  congr 1
  simp [leftOf]

theorem filter_born : ∀ (l : List MapEntry) (i : Nat) (e : MapEntry), l[i]? = some e → (l.map (·.born)).Nodup → l.filter (fun x => !(x.born == e.born)) = l.eraseIdx i
  | [], i, e, h, _ => by simp at h
  | x :: l, i, e, h, hn => by
    rw [List.map_cons, List.nodup_cons] at hn
    cases i with
    | zero =>
      simp at h; subst h
      simp only [List.filter_cons, beq_self_eq_true, Bool.not_true, Bool.false_eq_true, if_false, List.eraseIdx_cons_zero]
      rw [List.filter_eq_self]
      intro y hy
      have : y.born ≠ x.born := fun e => hn.1 (by rw [← e]; exact List.mem_map.2 ⟨y, hy, rfl⟩)
      simpa using this
    | succ i =>
      have hi : l[i]? = some e := by simpa using h
      have hne : x.born ≠ e.born := fun h' => hn.1 (by rw [h']; exact List.mem_map.2 ⟨e, List.mem_of_getElem? hi, rfl⟩)
      rw [List.filter_cons, if_pos (by simpa using hne), List.eraseIdx_cons_succ, filter_born l i e hi hn.2]

theorem next_run {P : Program} {kv : α → Value} {vv : β → Value} {w : World} {r b : Nat} {D left : List (α × β)} (h : RangeAt w r b kv vv D left) (ty : TypeId) :
    (left = [] ∧ (Instr.next (.pointer (some ⟨r, 0, none⟩)) false ty).run P w = .ok (.tuple #[.bool false]) w) ∨
    ∃ i p w', left[i]? = some p ∧ (Instr.next (.pointer (some ⟨r, 0, none⟩)) false ty).run P w = .ok (.tuple #[.bool true, kv p.1, vv p.2]) w' ∧ RangeAt w' r b kv vv D (left.eraseIdx i) ∧ Fm (· = r) w w' ∧ w'.heap.size = w.heap.size ∧
      (Instr.entry (.pointer (some ⟨r, 0, none⟩))).run P w' = .ok (.tuple #[kv p.1, vv p.2]) w' := by
  obtain ⟨es, c, since, seen, hb, hr, he, hn, hlt, hsc, hl⟩ := h.ex
  have hrb : r ≠ b := by rintro rfl; rw [hb] at hr; cases hr
  rcases run_next_at (P := P) w ty r b since c seen es c hr hb hlt hsc with ⟨h0, hrun⟩ | ⟨e, hmem, w1, hw1, hrun⟩
  · refine .inl ⟨?_, hrun⟩
    have : (leftOf es seen).toList = [] := by simpa using h0
    rw [this] at hl
    cases left with
    | nil => rfl
    | cons _ _ => simp at hl
  · obtain ⟨i, hi⟩ := List.getElem?_of_mem hmem
    have hkv : (left.map (fun p => (kv p.1, vv p.2)))[i]? = some (e.key, e.val) := by rw [← hl]; simp [hi]
    rw [List.getElem?_map, Option.map_eq_some_iff] at hkv
    obtain ⟨p, hp, hpe⟩ := hkv
    simp only [Prod.mk.injEq] at hpe
    obtain ⟨hk, hv⟩ := hpe
    have hb1 : w1.heap[b]? = some (.map es c) := by rcases hw1 with rfl | rfl <;> exact hb
    have hr1 : w1.heap[r]? = some (.mapIter (some b) since seen c) := by rcases hw1 with rfl | rfl <;> exact hr
    have hf1 : Fm (· = r) w w1 := by rcases hw1 with rfl | rfl; exact Fm.refl _ _; exact Fm.drew _ _
    have hf2 : Fm (· = r) w (setBlock w1 r (.mapIter (some b) since (seen.push e.born) c)) := hf1.trans (Fm.setBlock (S := (· = r)) _ _ _ rfl) (fun _ _ h => h) (fun _ _ h => h)
    have hb2 : (setBlock w1 r (.mapIter (some b) since (seen.push e.born) c)).heap[b]? = some (.map es c) := (Fm.setBlock (S := (· = r)) w1 r _ rfl).heap hb1 (fun e => hrb e.symm)
    have hr2 := setBlock_at (o := .mapIter (some b) since (seen.push e.born) c) hr1
    have hees : e ∈ es.toList := by unfold leftOf at hmem; simp at hmem ⊢; exact hmem.1
    refine .inr ⟨i, p, _, hp, by rw [hk, hv]; exact hrun, ⟨es, c, since, seen.push e.born, hb2, hr2, he, hn, hlt, hsc, ?_⟩, hf2, by rw [setBlock_size]; rcases hw1 with rfl | rfl <;> rfl, ?_⟩
    · have hnl : ((leftOf es seen).toList.map (·.born)).Nodup := by
        unfold leftOf
        rw [Array.toList_filter]
        exact hn.sublist (List.Sublist.map _ List.filter_sublist)
      have h1 : (leftOf es (seen.push e.born)).toList = (leftOf es seen).toList.filter (fun x => !(x.born == e.born)) := by
        unfold leftOf
        simp only [Array.toList_filter, List.filter_filter]
        congr 1
        funext x
        simp only [Array.contains_push, Bool.not_or]
        rw [Bool.and_comm, BEq.comm]
      rw [h1, filter_born _ i e hi hnl, ← eraseIdx_mp, ← eraseIdx_mp, hl]
    · rw [hk, hv]
      exact run_entry_at _ r b since seen es c e hr2 hb2 hees hn

/-- How many pairs an iterator has still to come: a loop's measure. -/
def rl (w : World) (r b : Nat) : Nat := match w.heap[b]?, w.heap[r]? with
  | some (.map es _), some (.mapIter _ _ seen _) => (leftOf es seen).toList.length
  | _, _ => 0
theorem RangeAt.len {kv : α → Value} {vv : β → Value} {w : World} {r b : Nat} {D left : List (α × β)} (h : RangeAt w r b kv vv D left) : rl w r b = left.length := by
  obtain ⟨es, c, s, sn, h1, h2, _, _, _, _, hl⟩ := h.ex
  unfold rl
  rw [h1, h2]
  have := congrArg List.length hl
  simpa using this
theorem RangeAt.lt {kv : α → Value} {vv : β → Value} {w : World} {r b : Nat} {D left : List (α × β)} (h : RangeAt w r b kv vv D left) : r < w.heap.size := by
  obtain ⟨es, c, s, sn, h1, h2, _⟩ := h.ex; exact lt_of_heap h2
theorem RangeAt.ne {kv : α → Value} {vv : β → Value} {w : World} {r b : Nat} {D left : List (α × β)} (h : RangeAt w r b kv vv D left) : r ≠ b := by
  obtain ⟨es, c, s, sn, h1, h2, _⟩ := h.ex; rintro rfl; rw [h1] at h2; cases h2
theorem RangeAt.map {kv : α → Value} {vv : β → Value} {w : World} {r b : Nat} {D left : List (α × β)} (h : RangeAt w r b kv vv D left) (hn : (D.map (·.1)).Nodup) : MapAt w b kv vv D := by
  obtain ⟨es, c, s, sn, h1, h2, h3, h4, h5, h6, _⟩ := h.ex
  exact ⟨⟨es, c, h1, h3, h4, fun e he => Nat.lt_of_lt_of_le (h5 e he) h6⟩, hn⟩
theorem mem_erase_or {γ : Type} {l : List γ} {i : Nat} {p q : γ} (hi : l[i]? = some p) (hq : q ∈ l) : q = p ∨ q ∈ l.eraseIdx i := by
  obtain ⟨j, hj⟩ := List.getElem?_of_mem hq
  by_cases h : j = i
  · subst h; rw [hi] at hj; cases hj; exact .inl rfl
  · right
    rw [List.mem_eraseIdx_iff_getElem?]
    exact ⟨j, h, hj⟩

end Go.Al
