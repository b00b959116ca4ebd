/- Laid for one claim by slim.py out of: parts. -/
import Derived.Test.YthbngnlmgplijaaGreatDoorWplA
set_option maxRecDepth 100000
set_option maxHeartbeats 0
set_option linter.unusedVariables false
set_option linter.unusedSimpArgs false
set_option linter.unusedSectionVars false
open Go.Proofs.Tryz (prog)
namespace Go.Al
open Go.RowKit (Below)
open Go.ChangeMaps (setBlock)
theorem aq {w : World} {b : Nat} {o : Obj} (h : w.heap[b]? = some o) : b < w.heap.size := (Array.getElem?_eq_some_iff.1 h).1
theorem Fm.heap {S : Nat → Prop} {w w' : World} (h : Fm S w w') {b : Nat} {o : Obj} (hb : w.heap[b]? = some o) (hs : ¬ S b) : w'.heap[b]? = some o := by rw [h.block b (aq hb) hs]; exact hb
theorem az (w : World) (o : Obj) : (w.alloc o).heap[w.heap.size]? = some o := (MapKept.heap_alloc w o).1
theorem bo (w : World) (o : Obj) : (w.alloc o).heap.size = w.heap.size + 1 := by simp
theorem ag {w : World} {b off : Nat} {cs : Array Value} {t : TypeId} {fz : Nat × Nat} (h : w.heap[b]? = some (.cells cs t fz)) : w.cell? ⟨b, off, none⟩ = cs[off]? := by
 unfold World.cell?; simp [h]
theorem ct {w : World} {b : Nat} {o o' : Obj} (h : w.heap[b]? = some o') : (setBlock w b o).heap[b]? = some o := by
 simp [ChangeMaps.setBlock, aq h]
theorem bK (w : World) (b : Nat) (o : Obj) : (setBlock w b o).heap.size = w.heap.size := by simp [ChangeMaps.setBlock]
theorem ao {cs : Array Value} {t : TypeId} {w : World} {k : KV} (h : ∀ b w', b = w.heap.size → w'.heap.size = w.heap.size + 1 → w'.heap[b]? = some (.cells cs t) → Fm (fun _ => False) w w' → k (.pointer (some ⟨b, 0, none⟩)) w') : New cs t w k := by
 rw [uo]
 exact h _ _ rfl (bo _ _) (az _ _) (Fm.alloc _ _ _)
theorem aY {α β : Type} (f : α → β) : ∀ (l : List α) (i : Nat), (l.map f).eraseIdx i = (l.eraseIdx i).map f
 | [], i => by simp
 | x :: l, 0 => by simp
 | x :: l, i + 1 => by simp [aY f l i]
structure KeyT (P : Program) (t : TypeId) (kt et : TypeId) {α : Type} (kv : α → Value) : Prop where
 map : P.underlying t = some (.map kt et)
 now : ∃ d, P.underlying kt = some d ∧ (∀ a b, ∃ r, Instr.sameNow d (kv a) (kv b) = some r ∧ (r = true ↔ a = b)) ∧ ∀ w a e, (Instr.checkKey e 10000 kt (kv a)).run P w = .ok () w
 bits : ∀ a n, Instr.sameBits n (kv a) (kv a) = true
 inj : ∀ a b, kv a = kv b → a = b
theorem nz {P : Program} {t kt et : TypeId} {q : IntKind} (h : P.underlying t = some (.map kt et)) (hk : P.underlying kt = some (.int q)) : KeyT P t kt et (Value.int q) where
 map := h
 now := ⟨_, hk, fun a b => ⟨a == b, by simp [Instr.sameNow], by simp⟩, fun w a e => by
  rw [Instr.checkKey]
  simp only [Sem.run_bind, an hk, Result.andThen_ok, Sem.run_pure]⟩
 bits := fun a n => by cases n <;> simp [Instr.sameBits]
 inj := fun a b h => by cases h; rfl
variable {α β : Type} [DecidableEq α]
structure MapAt (w : World) (b : Nat) (kv : α → Value) (vv : β → Value) (D : List (α × β)) : Prop where
 ex : ∃ es clock, w.heap[b]? = some (.map es clock) ∧ es.toList.map (fun e => (e.key, e.val)) = D.map (fun p => (kv p.1, vv p.2)) ∧ (es.toList.map (·.born)).Nodup ∧ ∀ e ∈ es.toList, e.born < clock
 keys : (D.map (·.1)).Nodup
def getD (D : List (α × β)) (a : α) : Option β := (D.find? (fun p => decide (p.1 = a))).map (·.2)
def gu : List (α × β) → α → β → List (α × β)
 | [], a, b => [(a, b)]
 | p :: l, a, b => if p.1 = a then (a, b) :: l else p :: gu l a b
def sh : List (α × β) → α → List (α × β)
 | [], _ => []
 | p :: l, a => if p.1 = a then l else p :: sh l a
theorem cj (p : α × β) (D : List (α × β)) (x : α) : getD (p :: D) x = if p.1 = x then some p.2 else getD D x := by
 unfold getD
 rw [List.find?_cons]
 by_cases h : p.1 = x <;> simp [h]
theorem mX (x : α) : getD ([] : List (α × β)) x = none := rfl
theorem oW (D : List (α × β)) (a : α) (b : β) (x : α) : getD (gu D a b) x = if x = a then some b else getD D x := by
 induction D with
 | nil => rw [gu, cj, mX]; by_cases h : a = x <;> simp [h, eq_comm]
 | cons p l ih =>
  rw [gu]
  by_cases hp : p.1 = a
  ·rw [if_pos hp, cj, cj]; subst hp; by_cases h : p.1 = x
   ·simp [h]
   ·have h' : ¬ x = p.1 := fun e => h e.symm
    simp [h, h']
  ·rw [if_neg hp, cj, cj, ih]
   by_cases h : p.1 = x
   ·have : x ≠ a := fun e => hp (h.trans e); simp [h, this]
   ·simp [h]
theorem dN (D : List (α × β)) (a : α) (b : β) : (gu D a b).map (·.1) = if a ∈ D.map (·.1) then D.map (·.1) else D.map (·.1) ++ [a] := by
 induction D with
 | nil => simp [gu]
 | cons p l ih =>
  rw [gu]
  by_cases hp : p.1 = a
  ·subst hp; simp
  ·have hp' : ¬ a = p.1 := fun e => hp e.symm
   simp only [if_neg hp, List.map_cons, ih, List.mem_cons, hp', false_or]
   split <;> simp
theorem iO {D : List (α × β)} (h : (D.map (·.1)).Nodup) (a : α) (b : β) : ((gu D a b).map (·.1)).Nodup := by
 rw [dN]
 split
 ·exact h
 ·rename_i hn; rw [List.nodup_append]; exact ⟨h, by simp, fun x hx y hy => by simp at hy; subst hy; rintro rfl; exact hn hx⟩
theorem bz {D : List (α × β)} {a : α} : getD D a = none ↔ a ∉ D.map (·.1) := by
 unfold getD
 rw [Option.map_eq_none_iff, List.find?_eq_none]
 simp only [decide_eq_true_eq, List.mem_map, not_exists, not_and]
theorem getD_some {D : List (α × β)} (h : (D.map (·.1)).Nodup) {a : α} {b : β} : getD D a = some b ↔ (a, b) ∈ D := by
 induction D with
 | nil => simp [mX]
 | cons p l ih =>
  rw [List.map_cons, List.nodup_cons] at h
  rw [cj, List.mem_cons]
  by_cases hp : p.1 = a
  ·rw [if_pos hp]
   constructor
   ·intro e; cases e; exact .inl (by rw [← hp])
   ·rintro (e | e)
    ·cases e; rfl
    ·exact absurd (List.mem_map.2 ⟨(a, b), e, rfl⟩) (by rw [← hp]; exact h.1)
  ·rw [if_neg hp, ih h.2]
   constructor
   ·exact .inr
   ·rintro (e | e)
    ·cases e; exact absurd rfl hp
    ·exact e
theorem MapAt.lt {w : World} {b : Nat} {kv : α → Value} {vv : β → Value} {D : List (α × β)} (h : MapAt w b kv vv D) : b < w.heap.size := by
 obtain ⟨es, c, hb, _⟩ := h.ex; exact aq hb
theorem MapAt.keep {S : Nat → Prop} {w w' : World} {b : Nat} {kv : α → Value} {vv : β → Value} {D : List (α × β)} (h : MapAt w b kv vv D) (hf : Fm S w w') (hs : ¬ S b) : MapAt w' b kv vv D := by
 obtain ⟨es, c, hb, r⟩ := h.ex
 exact ⟨⟨es, c, hf.heap hb hs, r⟩, h.keys⟩
theorem MapAt.empty (w : World) (kv : α → Value) (vv : β → Value) : MapAt (w.alloc (.map #[] 0)) w.heap.size kv vv [] := ⟨⟨#[], 0, az _ _, rfl, by simp, by simp⟩, by simp⟩
theorem ox {P : Program} {t kt et : TypeId} {kv : α → Value} (K : KeyT P t kt et kv) {vv : β → Value} (a : α) {d : TypeDesc} (hd : P.underlying kt = some d) : ∀ (es : List MapEntry) (D : List (α × β)) (i : Nat),
  es.map (fun e => (e.key, e.val)) = D.map (fun p => (kv p.1, vv p.2)) →
  (getD D a = none ∧ Instr.findNow d (kv a) es i = some none) ∨ (∃ j b, getD D a = some b ∧ Instr.findNow d (kv a) es i = some (some (i + j, vv b)) ∧ j < es.length ∧ (es[j]?.map (·.key)) = some (kv a) ∧ (D.map (·.1))[j]? = some a ∧ ∀ l, l < j → (D.map (·.1))[l]? ≠ some a) := by
 intro es
 obtain ⟨d', hd', hs, _⟩ := K.now
 rw [hd] at hd'; cases hd'
 induction es with
 | nil => intro D i h; cases D with | nil => exact .inl ⟨rfl, rfl⟩ | cons _ _ => simp at h
 | cons e es ih =>
  intro D i h
  cases D with
  | nil => simp at h
  | cons p D =>
   simp only [List.map_cons, List.cons.injEq, Prod.mk.injEq] at h
   obtain ⟨⟨h1, h2⟩, h3⟩ := h
   obtain ⟨r, hr, hiff⟩ := hs a p.1
   rw [cj]
   by_cases hp : p.1 = a
   ·have hrt : r = true := hiff.2 hp.symm
    refine .inr ⟨0, p.2, by rw [if_pos hp], ?_, by simp, by simp [h1, hp], by simp [hp], fun l hl => absurd hl (Nat.not_lt_zero _)⟩
    simp only [Instr.findNow, h1, hr, hrt, h2, Nat.add_zero]
   ·have hrf : r = false := by cases r with | false => rfl | true => exact absurd (hiff.1 rfl).symm hp
    rw [if_neg hp]
    have hstep : Instr.findNow d (kv a) (e :: es) i = Instr.findNow d (kv a) es (i + 1) := by simp only [Instr.findNow, h1, hr, hrf]
    rw [hstep]
    rcases ih D (i + 1) h3 with ⟨g1, g2⟩ | ⟨j, b, g1, g2, g3, g4, g5, g6⟩
    ·exact .inl ⟨g1, g2⟩
    ·refine .inr ⟨j + 1, b, g1, by rw [g2, show i + 1 + j = i + (j + 1) by omega], by simpa using g3, by simpa using g4, by simpa using g5, fun l hl => ?_⟩
     cases l with
     | zero => simpa using fun e => hp e
     | succ l => simpa using g6 l (by omega)
theorem eF {P : Program} {t kt et : TypeId} {kv : α → Value} (K : KeyT P t kt et kv) {vv : β → Value} (a : α) {es : List MapEntry} {D : List (α × β)} (w : World)
  (h : es.map (fun e => (e.key, e.val)) = D.map (fun p => (kv p.1, vv p.2))) :
  (getD D a = none ∧ (Instr.findKey kt (kv a) es).run P w = .ok none w) ∨ (∃ j b, getD D a = some b ∧ (Instr.findKey kt (kv a) es).run P w = .ok (some (j, vv b)) w ∧ j < es.length ∧ (es[j]?.map (·.key)) = some (kv a) ∧ (D.map (·.1))[j]? = some a ∧ ∀ l, l < j → (D.map (·.1))[l]? ≠ some a) := by
 obtain ⟨d, hd, _⟩ := K.now
 unfold Instr.findKey
 simp only [Sem.run_bind, an hd, Result.andThen_ok]
 rcases ox K a hd es D 0 h with ⟨g1, g2⟩ | ⟨j, b, g1, g2, g3⟩
 ·exact .inl ⟨g1, by rw [g2]; rfl⟩
 ·exact .inr ⟨j, b, g1, by rw [g2, Nat.zero_add]; rfl, g3⟩
theorem run_getObj_map {P : Program} {w : World} {b : Nat} {es : Array MapEntry} {c : Nat} (h : w.heap[b]? = some (.map es c)) : (getObj b).run P w = .ok (.map es c) w := by simp [getObj, Sem.run, h]
theorem run_setObj_map {P : Program} {w : World} {b : Nat} {es : Array MapEntry} {c : Nat} (h : w.heap[b]? = some (.map es c)) (o : Obj) : (setObj b o).run P w = .ok () (setBlock w b o) := by simp [setObj, Sem.run, h, ChangeMaps.setBlock]
def okV (ok : Bool) (v : Value) (is : Bool) : Value := bif ok then .tuple #[v, .bool is] else v
theorem em {P : Program} {t kt et : TypeId} {kv : α → Value} (K : KeyT P t kt et kv) {vv : β → Value} {w : World} {b : Nat} {D : List (α × β)} (h : MapAt w b kv vv D) (a : α) (ok : Bool) {z : Value} (hz : (zeroValue et).run P w = .ok z w) :
  (Instr.lookup t (.map (some b)) (kv a) ok).run P w = .ok (match getD D a with
   | some v => okV ok (vv v) true
   | none => okV ok z false) w := by
 obtain ⟨es, c, hb, he, _⟩ := h.ex
 obtain ⟨d, hd, _, hc⟩ := K.now
 unfold Instr.lookup
 simp only [Sem.run_bind, an K.map, Result.andThen_ok, run_getObj_map hb, Sem.run_pure, hc]
 rcases eF K a w he with ⟨g1, g2⟩ | ⟨j, v, g1, g2, _⟩
 ·rw [g2, g1]; simp [hz]; cases ok <;> rfl
 ·rw [g2, g1]; simp; cases ok <;> rfl
theorem sI (D : List (α × β)) (a : α) (v : β) : ∀ j, (D.map (·.1))[j]? = some a → (∀ l, l < j → (D.map (·.1))[l]? ≠ some a) → gu D a v = D.modify j (fun _ => (a, v)) := by
 induction D with
 | nil => intro j h _; simp at h
 | cons p l ih =>
  intro j h hn
  rw [gu]
  cases j with
  | zero => simp at h; simp [h]
  | succ j =>
   have : p.1 ≠ a := by have := hn 0 (by omega); simpa using this
   rw [if_neg this, List.modify_succ_cons, ih j (by simpa using h) (fun l hl => by have := hn (l + 1) (by omega); simpa using this)]
theorem dh (D : List (α × β)) (a : α) (v : β) (h : getD D a = none) : gu D a v = D ++ [(a, v)] := by
 induction D with
 | nil => rfl
 | cons p l ih =>
  rw [cj] at h
  rw [gu]
  by_cases hp : p.1 = a
  ·rw [if_pos hp] at h; cases h
  ·rw [if_neg hp] at h ⊢; rw [ih h]; rfl
theorem tK (D : List (α × β)) (a : α) : ∀ j, (D.map (·.1))[j]? = some a → (∀ l, l < j → (D.map (·.1))[l]? ≠ some a) → sh D a = D.eraseIdx j := by
 induction D with
 | nil => intro j h _; simp at h
 | cons p l ih =>
  intro j h hn
  rw [sh]
  cases j with
  | zero => simp at h; simp [h]
  | succ j =>
   have : p.1 ≠ a := by have := hn 0 (by omega); simpa using this
   rw [if_neg this, List.eraseIdx_cons_succ, ih j (by simpa using h) (fun l hl => by have := hn (l + 1) (by omega); simpa using this)]
theorem pZ (D : List (α × β)) (a : α) (h : getD D a = none) : sh D a = D := by
 induction D with
 | nil => rfl
 | cons p l ih =>
  rw [cj] at h
  rw [sh]
  by_cases hp : p.1 = a
  ·rw [if_pos hp] at h; cases h
  ·rw [if_neg hp] at h ⊢; rw [ih h]
theorem fM {P : Program} {t kt et : TypeId} {kv : α → Value} (K : KeyT P t kt et kv) {vv : β → Value} {w : World} {b : Nat} {D : List (α × β)} (h : MapAt w b kv vv D) (a : α) (v : β) :
  ∃ w', (Instr.mapUpdate t (.map (some b)) (kv a) (vv v)).run P w = .ok () w' ∧ MapAt w' b kv vv (gu D a v) ∧ Fm (· = b) w w' ∧ w'.heap.size = w.heap.size := by
 obtain ⟨es, c, hb, he, hn, hlt⟩ := h.ex
 obtain ⟨d, hd, _, hc⟩ := K.now
 unfold Instr.mapUpdate
 simp only [Sem.run_bind, an K.map, Result.andThen_ok, run_getObj_map hb, hc]
 rcases eF K a w he with ⟨g1, g2⟩ | ⟨j, u, g1, g2, g3, g4, g5, g6⟩
 ·rw [g2]
  simp only [Result.andThen_ok, run_setObj_map hb]
  refine ⟨_, rfl, ⟨⟨_, _, ct hb, ?_, ?_, ?_⟩, iO h.keys a v⟩, Fm.setBlock _ _ _ rfl, bK _ _ _⟩
  ·rw [dh D a v g1]; simp [he]
  ·simp only [Array.toList_push, List.map_append, List.map_cons, List.map_nil]
   rw [List.nodup_append]
   refine ⟨hn, by simp, fun x hx y hy => ?_⟩
   simp at hy
   subst hy
   obtain ⟨e, he', rfl⟩ := List.mem_map.1 hx
   have := hlt e he'
   omega
  ·intro e he'
   simp only [Array.toList_push, List.mem_append, List.mem_singleton] at he'
   rcases he' with he' | rfl
   ·have := hlt e he'; omega
   ·simp
 ·rw [g2]
  have hkey : ((es[j]?).map (·.key)).getD (kv a) = kv a := by
   have : es[j]? = es.toList[j]? := by simp
   rw [this, g4]; rfl
  simp only [Result.andThen_ok, Sem.run_bind, hkey, Instr.keyThatStays, K.bits, if_true, Sem.run_pure, run_setObj_map hb]
  have hmod : (es.modify j fun e => { e with key := kv a, val := vv v }).toList = es.toList.modify j (fun e => { e with key := kv a, val := vv v }) := by simp
  have hb1 : ∀ (l : List MapEntry) (j : Nat), (l.modify j (fun e => { e with key := kv a, val := vv v })).map (·.born) = l.map (·.born) := by
   intro l
   induction l with
   | nil => intro j; simp
   | cons e l ih => intro j; cases j <;> simp [ih]
  have hb2 : ∀ (l : List MapEntry) (D : List (α × β)) (j : Nat), l.map (fun e => (e.key, e.val)) = D.map (fun p => (kv p.1, vv p.2)) →
    (l.modify j (fun e => { e with key := kv a, val := vv v })).map (fun e => (e.key, e.val)) = (D.modify j (fun _ => (a, v))).map (fun p => (kv p.1, vv p.2)) := by
   intro l
   induction l with
   | nil => intro D j h; cases D <;> simp_all
   | cons e l ih =>
    intro D j h
    cases D with
    | nil => simp at h
    | cons p D =>
     simp only [List.map_cons, List.cons.injEq] at h
     cases j with
     | zero => simp [h.2]
     | succ j => simp [h.1, ih D j h.2]
  refine ⟨_, rfl, ⟨⟨_, _, ct hb, ?_, ?_, ?_⟩, iO h.keys a v⟩, Fm.setBlock _ _ _ rfl, bK _ _ _⟩
  ·rw [hmod, hb2 _ _ _ he, sI D a v j g5 g6]
  ·rw [hmod, hb1]; exact hn
  ·intro e he'
   rw [hmod] at he'
   have : e.born ∈ (es.toList.modify j (fun e => { e with key := kv a, val := vv v })).map (·.born) := List.mem_map.2 ⟨e, he', rfl⟩
   rw [hb1] at this
   obtain ⟨e', h1, h2⟩ := List.mem_map.1 this
   rw [← h2]; exact hlt e' h1
theorem eR {P : Program} (t : TypeId) (w : World) : (Instr.makeMap t none).run P w = .ok (.map (some w.heap.size)) (w.alloc (.map #[] 0)) := by
 simp [Instr.makeMap, newObj, Sem.run]
structure RangeAt (w : World) (r b : Nat) (kv : α → Value) (vv : β → Value) (D : List (α × β)) (left : List (α × β)) : Prop where
 ex : ∃ es clock since seen, w.heap[b]? = some (.map es clock) ∧ w.heap[r]? = some (.mapIter (some b) since seen clock) ∧ es.toList.map (fun e => (e.key, e.val)) = D.map (fun p => (kv p.1, vv p.2)) ∧ (es.toList.map (·.born)).Nodup ∧ (∀ e ∈ es.toList, e.born < since) ∧ since ≤ clock ∧
  (leftOf es seen).toList.map (fun e => (e.key, e.val)) = left.map (fun p => (kv p.1, vv p.2))
theorem kL {P : Program} {t kt et : TypeId} (ht : P.underlying t = some (.map kt et)) {kv : α → Value} {vv : β → Value} {w : World} {b : Nat} {D : List (α × β)} (h : MapAt w b kv vv D) :
  ∃ w', (Instr.range t (.map (some b))).run P w = .ok (.pointer (some ⟨w.heap.size, 0, none⟩)) w' ∧ RangeAt w' w.heap.size b kv vv D D ∧ Fm (fun _ => False) w w' ∧ w'.heap.size = w.heap.size + 1 := by
 obtain ⟨es, c, hb, he, hn, hlt⟩ := h.ex
 unfold Instr.range
 simp only [Sem.run_bind, an ht, Result.andThen_ok, run_getObj_map hb, Sem.run_pure, run_newObj]
 refine ⟨_, rfl, ⟨es, c, c, #[], (Fm.alloc (fun _ => False) w _).heap hb (fun e => e), az _ _, he, hn, hlt, Nat.le_refl _, ?_⟩, Fm.alloc _ _ _, bo _ _⟩
 rw [← he]
 congr 1
 simp [leftOf]
theorem gS : ∀ (l : List MapEntry) (i : Nat) (e : MapEntry), l[i]? = some e → (l.map (·.born)).Nodup → l.filter (fun x => !(x.born == e.born)) = l.eraseIdx i
 | [], i, e, h, _ => by simp at h
 | x :: l, i, e, h, hn => by
  rw [List.map_cons, List.nodup_cons] at hn
  cases i with
  | zero =>
   simp at h; subst h
   simp only [List.filter_cons, beq_self_eq_true, Bool.not_true, Bool.false_eq_true, if_false, List.eraseIdx_cons_zero]
   rw [List.filter_eq_self]
   intro y hy
   have : y.born ≠ x.born := fun e => hn.1 (by rw [← e]; exact List.mem_map.2 ⟨y, hy, rfl⟩)
   simpa using this
  | succ i =>
   have hi : l[i]? = some e := by simpa using h
   have hne : x.born ≠ e.born := fun h' => hn.1 (by rw [h']; exact List.mem_map.2 ⟨e, List.mem_of_getElem? hi, rfl⟩)
   rw [List.filter_cons, if_pos (by simpa using hne), List.eraseIdx_cons_succ, gS l i e hi hn.2]
theorem nG {P : Program} {kv : α → Value} {vv : β → Value} {w : World} {r b : Nat} {D left : List (α × β)} (h : RangeAt w r b kv vv D left) (ty : TypeId) :
  (left = [] ∧ (Instr.next (.pointer (some ⟨r, 0, none⟩)) false ty).run P w = .ok (.tuple #[.bool false]) w) ∨
  ∃ i p w', left[i]? = some p ∧ (Instr.next (.pointer (some ⟨r, 0, none⟩)) false ty).run P w = .ok (.tuple #[.bool true, kv p.1, vv p.2]) w' ∧ RangeAt w' r b kv vv D (left.eraseIdx i) ∧ Fm (· = r) w w' ∧ w'.heap.size = w.heap.size ∧
   (Instr.entry (.pointer (some ⟨r, 0, none⟩))).run P w' = .ok (.tuple #[kv p.1, vv p.2]) w' := by
 obtain ⟨es, c, since, seen, hb, hr, he, hn, hlt, hsc, hl⟩ := h.ex
 have hrb : r ≠ b := by rintro rfl; rw [hb] at hr; cases hr
 rcases run_next_at (P := P) w ty r b since c seen es c hr hb hlt hsc with ⟨h0, hrun⟩ | ⟨e, hmem, w1, hw1, hrun⟩
 ·refine .inl ⟨?_, hrun⟩
  have : (leftOf es seen).toList = [] := by simpa using h0
  rw [this] at hl
  cases left with
  | nil => rfl
  | cons _ _ => simp at hl
 ·obtain ⟨i, hi⟩ := List.getElem?_of_mem hmem
  have hkv : (left.map (fun p => (kv p.1, vv p.2)))[i]? = some (e.key, e.val) := by rw [← hl]; simp [hi]
  rw [List.getElem?_map, Option.map_eq_some_iff] at hkv
  obtain ⟨p, hp, hpe⟩ := hkv
  simp only [Prod.mk.injEq] at hpe
  obtain ⟨hk, hv⟩ := hpe
  have hb1 : w1.heap[b]? = some (.map es c) := by rcases hw1 with rfl | rfl <;> exact hb
  have hr1 : w1.heap[r]? = some (.mapIter (some b) since seen c) := by rcases hw1 with rfl | rfl <;> exact hr
  have hf1 : Fm (· = r) w w1 := by rcases hw1 with rfl | rfl; exact Fm.refl _ _; exact Fm.drew _ _
  have hf2 : Fm (· = r) w (setBlock w1 r (.mapIter (some b) since (seen.push e.born) c)) := hf1.trans (Fm.setBlock (S := (· = r)) _ _ _ rfl) (fun _ _ h => h) (fun _ _ h => h)
  have hb2 : (setBlock w1 r (.mapIter (some b) since (seen.push e.born) c)).heap[b]? = some (.map es c) := (Fm.setBlock (S := (· = r)) w1 r _ rfl).heap hb1 (fun e => hrb e.symm)
  have hr2 := ct (o := .mapIter (some b) since (seen.push e.born) c) hr1
  have hees : e ∈ es.toList := by unfold leftOf at hmem; simp at hmem ⊢; exact hmem.1
  refine .inr ⟨i, p, _, hp, by rw [hk, hv]; exact hrun, ⟨es, c, since, seen.push e.born, hb2, hr2, he, hn, hlt, hsc, ?_⟩, hf2, by rw [bK]; rcases hw1 with rfl | rfl <;> rfl, ?_⟩
  ·have hnl : ((leftOf es seen).toList.map (·.born)).Nodup := by
    unfold leftOf
    rw [Array.toList_filter]
    exact hn.sublist (List.Sublist.map _ List.filter_sublist)
   have h1 : (leftOf es (seen.push e.born)).toList = (leftOf es seen).toList.filter (fun x => !(x.born == e.born)) := by
    unfold leftOf
    simp only [Array.toList_filter, List.filter_filter]
    congr 1
    funext x
    simp only [Array.contains_push, Bool.not_or]
    rw [Bool.and_comm, BEq.comm]
   rw [h1, gS _ i e hi hnl, ← aY, ← aY, hl]
  ·rw [hk, hv]
   exact run_entry_at _ r b since seen es c e hr2 hb2 hees hn
def rl (w : World) (r b : Nat) : Nat := match w.heap[b]?, w.heap[r]? with
 | some (.map es _), some (.mapIter _ _ seen _) => (leftOf es seen).toList.length
 | _, _ => 0
theorem RangeAt.len {kv : α → Value} {vv : β → Value} {w : World} {r b : Nat} {D left : List (α × β)} (h : RangeAt w r b kv vv D left) : rl w r b = left.length := by
 obtain ⟨es, c, s, sn, h1, h2, _, _, _, _, hl⟩ := h.ex
 unfold rl
 rw [h1, h2]
 have := congrArg List.length hl
 simpa using this
theorem RangeAt.ne {kv : α → Value} {vv : β → Value} {w : World} {r b : Nat} {D left : List (α × β)} (h : RangeAt w r b kv vv D left) : r ≠ b := by
 obtain ⟨es, c, s, sn, h1, h2, _⟩ := h.ex; rintro rfl; rw [h1] at h2; cases h2
theorem RangeAt.map {kv : α → Value} {vv : β → Value} {w : World} {r b : Nat} {D left : List (α × β)} (h : RangeAt w r b kv vv D left) (hn : (D.map (·.1)).Nodup) : MapAt w b kv vv D := by
 obtain ⟨es, c, s, sn, h1, h2, h3, h4, h5, h6, _⟩ := h.ex
 exact ⟨⟨es, c, h1, h3, h4, fun e he => Nat.lt_of_lt_of_le (h5 e he) h6⟩, hn⟩
theorem gp {γ : Type} {l : List γ} {i : Nat} {p q : γ} (hi : l[i]? = some p) (hq : q ∈ l) : q = p ∨ q ∈ l.eraseIdx i := by
 obtain ⟨j, hj⟩ := List.getElem?_of_mem hq
 by_cases h : j = i
 ·subst h; rw [hi] at hj; cases hj; exact .inl rfl
 ·right
  rw [List.mem_eraseIdx_iff_getElem?]
  exact ⟨j, h, hj⟩
structure ElemT (P : Program) (t e : TypeId) (sz bytes : Nat) : Prop where
 sl : P.underlying t = some (.slice e)
 info : ∃ i z, P.info? e = some i ∧ i.zero = some z ∧ i.size = sz ∧ i.bytes = bytes ∧ z.cells.size = sz
theorem cB {P : Program} {t e : TypeId} {sz bytes : Nat} (h : P.underlying t = some (.slice e)) (hi : (P.info? e).map (fun i => (i.zero.map (fun z => z.cells.size), i.size, i.bytes)) = some (some sz, sz, bytes)) : ElemT P t e sz bytes := by
 refine ⟨h, ?_⟩
 cases hp : P.info? e with
 | none => rw [hp] at hi; cases hi
 | some i =>
  rw [hp] at hi
  simp only [Option.map_some, Option.some.injEq, Prod.mk.injEq] at hi
  cases hz : i.zero with
  | none => rw [hz] at hi; simp at hi
  | some z => rw [hz] at hi; simp at hi; exact ⟨i, z, rfl, hz, hi.2.1, hi.2.2, hi.1⟩
theorem ae {S : Nat → Prop} {w w' : World} {base : Nat} {e : TypeId} {sz : Nat} {v : Value} {n : Nat} {xs : List Value} (h : w.ownsRow base e sz v n xs) (hf : Fm S w w') (hs : ∀ k, base ≤ k → k < w.heap.size → v.ownBlock = some k → ¬ S k) : w'.ownsRow base e sz v n xs := by
 obtain ⟨h1, h2⟩ := h
 refine ⟨h1, ?_⟩
 rcases h2 with h2 | ⟨g, cap, cur, rfl, hb, hg, r⟩
 ·exact .inl h2
 ·exact .inr ⟨g, cap, cur, rfl, hb, hf.heap hg (hs g hb (aq hg) rfl), r⟩
theorem aW {w : World} {base base' : Nat} {e : TypeId} {sz : Nat} {v : Value} {n : Nat} {xs : List Value} (h : w.ownsRow base e sz v n xs) (hb : base' ≤ base) : w.ownsRow base' e sz v n xs := by
 obtain ⟨h1, h2⟩ := h
 refine ⟨h1, ?_⟩
 rcases h2 with h2 | ⟨g, cap, cur, rfl, hb', r⟩
 ·exact .inl h2
 ·exact .inr ⟨g, cap, cur, rfl, by omega, r⟩
theorem aX {w : World} {base : Nat} {e : TypeId} {sz : Nat} {v : Value} {n : Nat} {xs : List Value} (h : w.ownsRow base e sz v n xs) : ∀ k, v.ownBlock = some k → base ≤ k ∧ k < w.heap.size := h.lt
theorem lA {w : World} {base : Nat} {e : TypeId} {v : Value} {n : Nat} {xs : List Value} (h : w.ownsRow base e 1 v n xs) : xs.length = n ∧ ((v = .slice none 0 0 ∧ n = 0) ∨ ∃ g cap, v = .slice (some ⟨g, 0, none⟩) n cap ∧ base ≤ g ∧ g < w.heap.size ∧ ∀ j, j < n → w.cell? ⟨g, j, none⟩ = xs[j]?) := by
 have hl := h.1
 rw [Nat.mul_one] at hl
 refine ⟨hl, ?_⟩
 rcases h.2 with h2 | ⟨g, cap, cur, rfl, hb, hg, r⟩
 ·exact .inl h2
 ·exact .inr ⟨g, cap, rfl, hb, aq hg, fun j hj => h.cellAt j (by omega)⟩
theorem sY {w : World} {base : Nat} {e : TypeId} {v : Value} {n : Nat} {xs : List Value} (h : w.ownsRow base e 1 v n xs) : lenV v = some (.int .i64 n) := by
 rcases (lA h).2 with ⟨rfl, rfl⟩ | ⟨g, cap, rfl, _⟩ <;> rfl
theorem oD {P : Program} {t e : TypeId} {sz bytes : Nat} (E : ElemT P t e sz bytes) (hsz : 0 < sz) {w : World} {base : Nat} {v : Value} {n : Nat} {xs : List Value} (h : w.ownsRow base e sz v n xs) (ty : TypeId)
  (a : Addr) (m c : Nat) (news : List Value) (hl : news.length = m * sz) (hnews : ∀ j u, news[j]? = some u → w.cell? (a.add j) = some u) (h1 : ∀ u ∈ news, u.oneCell' = true)
  (h63 : n + m ≤ maxLen) (hbytes : (n + m) * bytes ≤ 140737488355328) (hbase : base ≤ w.heap.size) :
  ∃ v' w', (Builtin.append_ #[t, t] ty #[v, .slice (some a) m c]).run P w = .ok v' w' ∧ w'.ownsRow base e sz v' (n + m) (xs ++ news) ∧ Fm (fun b => base ≤ b) w w' ∧ (v' = .slice none 0 0 ↔ v = .slice none 0 0 ∧ m = 0) := by
 obtain ⟨i, z, hi, hz, hs, hb, hzs⟩ := E.info
 obtain ⟨v', w', hr, ho, hg, hn⟩ := run_append_own (P := P) w base t ty e i z sz bytes E.sl hi hz hs hb hzs hsz v n xs h a m c news hl hnews h1 h63 hbytes hbase
 exact ⟨v', w', hr, ho, Fm.grown hg (fun k hk _ => (h.lt k hk).1), hn⟩
variable {α β : Type} [DecidableEq α]
theorem gl {P : Program} {t kt et : TypeId} {kv : α → Value} (K : KeyT P t kt et kv) {vv : β → Value} {w : World} {r b : Nat} {D left : List (α × β)} (h : RangeAt w r b kv vv D left) (hn : (D.map (·.1)).Nodup) (a : α) (ha : a ∉ left.map (·.1)) (ty u : TypeId) :
  ∃ w', (Builtin.delete_ #[t, u] ty #[.map (some b), kv a]).run P w = .ok (.tuple #[]) w' ∧ RangeAt w' r b kv vv (sh D a) left ∧ Fm (· = b) w w' ∧ w'.heap.size = w.heap.size := by
 have hrb := h.ne
 obtain ⟨es, c, since, seen, hb, hr, he, hbn, hlt, hsc, hl⟩ := h.ex
 obtain ⟨d, hd, _, hc⟩ := K.now
 unfold Builtin.delete_
 simp only [List.getElem?_toArray, List.getElem?_cons_zero, List.getElem?_cons_succ, Sem.run_bind, an K.map, Result.andThen_ok, run_getObj_map hb, hc]
 rcases eF K a w he with ⟨g1, g2⟩ | ⟨j, u, g1, g2, g3, g4, g5, g6⟩
 ·rw [g2]
  simp only [Result.andThen_ok, Sem.run_bind, run_setObj_map hb, Sem.run_pure]
  exact ⟨_, rfl, ⟨es, c, since, seen, ct hb, (Fm.setBlock (S := (· = b)) w b _ rfl).heap hr hrb, by rw [pZ D a g1]; exact he, hbn, hlt, hsc, hl⟩, Fm.setBlock _ _ _ rfl, bK _ _ _⟩
 ·rw [g2]
  simp only [Result.andThen_ok, Sem.run_bind, run_setObj_map hb, Sem.run_pure]
  have hle : (es.eraseIdxIfInBounds j).toList = es.toList.eraseIdx j := by simp
  refine ⟨_, rfl, ⟨es.eraseIdxIfInBounds j, c, since, seen, ct hb, (Fm.setBlock (S := (· = b)) w b _ rfl).heap hr hrb, ?_, ?_, ?_, hsc, ?_⟩, Fm.setBlock _ _ _ rfl, bK _ _ _⟩
  ·rw [hle, tK D a j g5 g6, ← aY, ← aY, he]
  ·rw [hle, ← aY]; exact hbn.sublist (List.eraseIdx_sublist _ _)
  ·intro e he'
   rw [hle] at he'
   exact hlt e (List.mem_of_mem_eraseIdx he')
  ·rw [← hl]
   congr 1
   unfold leftOf
   simp only [Array.toList_filter, hle]
   obtain ⟨e, hej, hek⟩ : ∃ e, es.toList[j]? = some e ∧ e.key = kv a := by
    rw [Option.map_eq_some_iff] at g4; exact g4
   have hout : (!seen.contains e.born) = false := by
    cases hs : (!seen.contains e.born) with
    | false => rfl
    | true =>
     exfalso
     have hm : e ∈ (leftOf es seen).toList := by
      unfold leftOf; simp only [Array.toList_filter, List.mem_filter]; exact ⟨List.mem_of_getElem? hej, hs⟩
     have : (e.key, e.val) ∈ left.map (fun p => (kv p.1, vv p.2)) := by rw [← hl]; exact List.mem_map.2 ⟨e, hm, rfl⟩
     obtain ⟨p, hp, hpe⟩ := List.mem_map.1 this
     simp only [Prod.mk.injEq] at hpe
     exact ha (by rw [← K.inj _ _ (hpe.1.trans hek)]; exact List.mem_map.2 ⟨p, hp, rfl⟩)
   have key : ∀ (l : List MapEntry) (j : Nat), l[j]? = some e → (l.eraseIdx j).filter (fun x => !seen.contains x.born) = l.filter (fun x => !seen.contains x.born) := by
    intro l
    induction l with
    | nil => intro j h; simp at h
    | cons x l ih =>
     intro j h
     cases j with
     | zero => simp at h; subst h; simp only [List.eraseIdx_cons_zero, List.filter_cons, hout, Bool.false_eq_true, if_false]
     | succ j => simp only [List.eraseIdx_cons_succ, List.filter_cons, ih j (by simpa using h)]
   exact key _ _ hej
structure CellsAt (w : World) (v : Value) (n sz : Nat) (xs : List Value) : Prop where
 ex : ∃ a c, v = .slice a n c ∧ n ≤ c ∧ c ≤ maxLen ∧ (a = none → n = 0 ∧ c = 0) ∧ ∀ j u, xs[j]? = some u → ∃ ad, a = some ad ∧ w.cell? (ad.add j) = some u
 len : xs.length = n * sz
def cd : Value → Option Nat
 | .slice (some a) _ _ => some a.block
 | _ => none
theorem fj (a : Addr) (n : Nat) : (a.add n).block = a.block := by
 unfold Addr.add; split <;> rfl
theorem CellsAt.of_own {w : World} {base : Nat} {e : TypeId} {sz : Nat} {v : Value} {n : Nat} {xs : List Value} (h : w.ownsRow base e sz v n xs) : CellsAt w v n sz xs := by
 refine ⟨?_, h.1⟩
 rcases h.2 with ⟨rfl, rfl⟩ | ⟨g, cap, cur, rfl, hb, hg, hnc, hcm, hcs, ht⟩
 ·have hl := h.1
  rw [Nat.zero_mul] at hl
  have hx := List.eq_nil_of_length_eq_zero hl
  exact ⟨none, 0, rfl, Nat.le_refl _, by simp [maxLen], fun _ => ⟨rfl, rfl⟩, fun j u hj => by rw [hx] at hj; simp at hj⟩
 ·refine ⟨some ⟨g, 0, none⟩, cap, rfl, hnc, hcm, fun e => (by cases e), fun j u hj => ⟨_, rfl, ?_⟩⟩
  have hjl : j < n * sz := by rw [← h.1]; exact (List.getElem?_eq_some_iff.1 hj).1
  rw [bv, Nat.zero_add, h.cellAt j hjl, hj]
theorem CellsAt.keep {S : Nat → Prop} {w w' : World} {v : Value} {n sz : Nat} {xs : List Value} (h : CellsAt w v n sz xs) (hf : Fm S w w') (hs : ∀ g, cd v = some g → ¬ S g) : CellsAt w' v n sz xs := by
 obtain ⟨⟨a, c, rfl, h1, h2, h3, h4⟩, hl⟩ := h
 refine ⟨⟨a, c, rfl, h1, h2, h3, fun j u hj => ?_⟩, hl⟩
 obtain ⟨ad, rfl, hc⟩ := h4 j u hj
 exact ⟨ad, rfl, hf.cell' hc (by rw [fj]; exact hs _ rfl)⟩
theorem CellsAt.keepAny {S : Nat → Prop} {w w' : World} {v : Value} {n sz : Nat} {xs : List Value} (h : CellsAt w v n sz xs) (hf : Fm S w w') (hs : xs ≠ [] → ∀ g, cd v = some g → ¬ S g) : CellsAt w' v n sz xs := by
 by_cases hx : xs = []
 ·obtain ⟨⟨a, c, rfl, h1, h2, h3, h4⟩, hl⟩ := h
  refine ⟨⟨a, c, rfl, h1, h2, h3, fun j u hj => ?_⟩, hl⟩
  rw [hx] at hj; simp at hj
 ·exact h.keep hf (hs hx)
theorem CellsAt.blt {w : World} {v : Value} {n sz : Nat} {xs : List Value} (h : CellsAt w v n sz xs) (hx : xs ≠ []) : ∀ g, cd v = some g → g < w.heap.size := by
 obtain ⟨⟨a, c, rfl, h1, h2, h3, h4⟩, hl⟩ := h
 intro g hg
 cases xs with
 | nil => exact absurd rfl hx
 | cons x xs =>
  obtain ⟨ad, rfl, hc⟩ := h4 0 x rfl
  have : ad.block = g := by simpa [cd] using hg
  subst this
  rw [add_zero] at hc
  unfold World.cell? at hc
  cases hb : w.heap[ad.block]? with
  | none => simp [hb] at hc
  | some o => exact (Array.getElem?_eq_some_iff.1 hb).1
theorem CellsAt.lt {w : World} {v : Value} {n sz : Nat} {xs : List Value} (h : CellsAt w v n sz xs) : n ≤ maxLen := by
 obtain ⟨⟨a, c, rfl, h1, h2, _⟩, hl⟩ := h; omega
theorem CellsAt.lenV {w : World} {v : Value} {n sz : Nat} {xs : List Value} (h : CellsAt w v n sz xs) : lenV v = some (.int .i64 n) := by
 obtain ⟨⟨a, c, rfl, _⟩, _⟩ := h; rfl
theorem CellsAt.at {w : World} {v : Value} {n sz : Nat} {xs : List Value} (h : CellsAt w v n sz xs) (hsz : 0 < sz) {i : Nat} (hi : i < n) (k : IntKind) : ∃ ad, ixV sz v (.int k i) = some (.pointer (some ad)) ∧ cd v = some ad.block ∧ ∀ j, j < sz → w.cell? (ad.add j) = xs[i * sz + j]? := by
 obtain ⟨⟨a, c, rfl, h1, h2, h3, h4⟩, hl⟩ := h
 have hlt : ∀ j, j < sz → i * sz + j < xs.length := fun j hj => by
  rw [hl]
  have : (i + 1) * sz ≤ n * sz := Nat.mul_le_mul_right _ hi
  rw [Nat.succ_mul] at this; omega
 obtain ⟨ad, rfl, _⟩ := h4 (i * sz + 0) _ (List.getElem?_eq_getElem (hlt 0 hsz))
 refine ⟨_, bD hi, by rw [fj]; rfl, fun j hj => ?_⟩
 obtain ⟨ad', e, hc⟩ := h4 (i * sz + j) _ (List.getElem?_eq_getElem (hlt j hj))
 cases e
 rw [dT, hc, List.getElem?_eq_getElem (hlt j hj)]
theorem CellsAt.at1 {w : World} {v : Value} {n : Nat} {xs : List Value} (h : CellsAt w v n 1 xs) {i : Nat} {x : Value} (hi : xs[i]? = some x) (k : IntKind) : ∃ ad, ixV 1 v (.int k i) = some (.pointer (some ad)) ∧ cd v = some ad.block ∧ w.cell? ad = some x := by
 have hlt : i < n := by have := (List.getElem?_eq_some_iff.1 hi).1; rw [h.len] at this; omega
 obtain ⟨ad, h1, h2, h3⟩ := h.at (by omega) hlt k
 have := h3 0 (by omega)
 rw [add_zero, Nat.mul_one, Nat.add_zero, hi] at this
 exact ⟨ad, h1, h2, this⟩
theorem eC {y d i : Nat} (h : i ≤ y) (k : IntKind) : bnd y d (some (.int k i)) = some i := by
 have : bnd y d (some (.int k i)) = if 0 ≤ (i : Int) ∧ (i : Int) ≤ y then some (i : Int).toNat else none := rfl
 rw [this, if_pos ⟨by omega, by omega⟩]; simp
theorem CellsAt.lo {w : World} {v : Value} {n sz : Nat} {xs : List Value} (h : CellsAt w v n sz xs) {i : Nat} (hi : i ≤ n) (k : IntKind) : ∃ v', slV sz v (some (.int k i)) none none = some v' ∧ CellsAt w v' (n - i) sz (xs.drop (i * sz)) ∧ (∀ g, cd v' = some g → cd v = some g) := by
 obtain ⟨⟨a, c, rfl, h1, h2, h3, h4⟩, hl⟩ := h
 have hv : slV sz (.slice a n c) (some (.int k i)) none none = some (.slice (if c = i then a else a.map (fun b => Addr.add b (i * sz))) (n - i) (c - i)) := by
  have e1 : bnd n 0 (some (.int k i)) = some i := eC hi k
  have e2 : bnd c c none = some c := rfl
  simp only [slV, ub, e1, e2, Option.bind_some, Option.map_some]
 refine ⟨_, hv, ⟨⟨_, _, rfl, by omega, by omega, fun e => ?_, fun j u hj => ?_⟩, ?_⟩, ?_⟩
 ·have : a = none := by
   split at e
   ·exact e
   ·cases a <;> simp at e; rfl
  have := h3 this; omega
 ·rw [List.getElem?_drop] at hj
  obtain ⟨ad, rfl, hc⟩ := h4 _ u hj
  have hlt := (List.getElem?_eq_some_iff.1 hj).1
  rw [hl] at hlt
  have hne : c ≠ i := by
   rintro rfl
   have : n = c := by omega
   subst this; omega
  rw [if_neg hne]
  exact ⟨_, rfl, by rw [dT]; exact hc⟩
 ·rw [List.length_drop, hl, Nat.sub_mul]
 ·intro g hg
  cases a with
  | none => split at hg <;> exact hg
  | some a =>
   split at hg
   ·exact hg
   ·rw [← hg]; show some a.block = some (a.add (i * sz)).block; rw [fj]
theorem hI {P : Program} {t e : TypeId} {sz bytes : Nat} (E : ElemT P t e sz bytes) (hsz : 0 < sz) {w : World} {base : Nat} {v x : Value} {n : Nat} {xs : List Value} {k : KV} (ty : TypeId) {cs : List Value} (hcs : cs.length = sz)
  (hbs : (Instr.buildSlice t 1 #[(0, x)]).run P w = .ok (.slice (some ⟨w.heap.size, 0, none⟩) 1 1) (w.alloc (.cells cs.toArray e))) (hx : ∀ u ∈ cs, u.oneCell' = true)
  (h : w.ownsRow base e sz v n xs) (h63 : n + 1 ≤ maxLen) (hbytes : (n + 1) * bytes ≤ 140737488355328) (hbase : base ≤ w.heap.size)
  (hk : ∀ v' w', w'.ownsRow base e sz v' (n + 1) (xs ++ cs) → v' ≠ .slice none 0 0 → Fm (fun b => base ≤ b) w w' → k v' w') :
  RunS P (Instr.buildSlice t 1 #[(0, x)]) w (fun t1 w1 => RunS P (Builtin.append_ #[t, t] ty #[v, t1]) w1 k) := by
 refine af hbs ?_
 obtain ⟨v', w', hr, ho, hf, hn⟩ := oD E hsz (h.alloc (.cells cs.toArray e)) ty ⟨w.heap.size, 0, none⟩ 1 1 cs (by omega) (fun j u hj => by
  rw [bv, Nat.zero_add, ag (az w _)]; simpa using hj) hx h63 hbytes (by rw [bo]; omega)
 exact af hr (hk v' w' ho (fun e => by have := (hn.1 e).2; omega) ((Fm.alloc _ w _).trans hf (fun _ _ h => h) (fun _ _ h => h)))
theorem js {w : World} {b : Nat} {cs : Array Value} {t : TypeId} {fz : Nat × Nat} (h : w.heap[b]? = some (.cells cs t fz)) (j : Nat) (u : Value) : (w.setCell ⟨b, j, none⟩ u).heap[b]? = some (.cells (cs.setIfInBounds j u) t fz) := by
 simp [World.setCell, Array.getElem?_modify, h]
theorem kz {w : World} {b : Nat} {cs : Array Value} {t : TypeId} (h : w.heap[b]? = some (.cells cs t)) (j : Nat) : w.frozen? ⟨b, j, none⟩ = false := by
 simp [World.frozen?, h]
theorem ay {w : World} {b j : Nat} {cs : Array Value} {t : TypeId} {u : Value} {k : KV} (hb : w.heap[b]? = some (.cells cs t)) (hj : j < cs.size) (hu : u.oneCell' = true) (h : ∀ w', w'.heap[b]? = some (.cells (cs.setIfInBounds j u) t) → w'.heap.size = w.heap.size → Fm (· = b) w w' → k undef w') : St 1 w (.pointer (some ⟨b, j, none⟩)) u k := by
 have hc : w.cell? ⟨b, j, none⟩ = some cs[j] := by rw [ag hb]; simp [hj]
 exact vK hu hc (kz hb j) (h _ (js hb j u) (by simp [World.setCell]) (Fm.setCell w ⟨b, j, none⟩ u rfl))
def ov : Array Value → Nat → List Value → Array Value
 | cs, _, [] => cs
 | cs, i, v :: l => ov (cs.setIfInBounds i v) (i + 1) l
theorem qk {b o : Nat} {t : TypeId} : ∀ (l : List Value) (i : Nat) (w : World) (cs : Array Value), w.heap[b]? = some (.cells cs t) → o + i + l.length ≤ cs.size → (∀ u ∈ l, u.oneCell' = true) →
  ∃ w', stC ⟨b, o, none⟩ i l w = some w' ∧ w'.heap[b]? = some (.cells (ov cs (o + i) l) t) ∧ w'.heap.size = w.heap.size ∧ Fm (· = b) w w'
 | [], i, w, cs, hb, _, _ => ⟨w, rfl, hb, rfl, Fm.refl _ _⟩
 | v :: l, i, w, cs, hb, hl, h1 => by
  simp only [List.length_cons] at hl
  have hc : w.cell? ⟨b, o + i, none⟩ = some (cs[o + i]'(by omega)) := by rw [ag hb]; simp
  obtain ⟨w', e1, e2, e3, e4⟩ := qk (b := b) (o := o) l (i + 1) (w.setCell ⟨b, o + i, none⟩ v) (cs.setIfInBounds (o + i) v) (js hb (o + i) v) (by rw [Array.size_setIfInBounds]; omega) (fun u hu => h1 u (by simp [hu]))
  refine ⟨w', ?_, e2, by rw [e3]; simp [World.setCell], (Fm.setCell (S := (· = b)) w ⟨b, o + i, none⟩ v rfl).trans e4 (fun _ _ e => e) (fun _ _ e => e)⟩
  simp only [stC, h1 v (by simp), cond_true, bv, hc, kz hb (o + i), cond_false]
  exact e1
theorem th {w : World} {b o n : Nat} {cs : Array Value} {t : TypeId} {us : Array Value} {k : KV} (hb : w.heap[b]? = some (.cells cs t)) (hn : us.size = n) (hj : o + n ≤ cs.size) (hu : ∀ u ∈ us.toList, u.oneCell' = true) (h : ∀ w', w'.heap[b]? = some (.cells (ov cs o us.toList) t) → w'.heap.size = w.heap.size → Fm (· = b) w w' → k undef w') : St n w (.pointer (some ⟨b, o, none⟩)) (.agg us) k := by
 obtain ⟨w', e1, e2, e3, e4⟩ := qk (o := o) us.toList 0 w cs hb (by rw [Array.length_toList]; omega) hu
 refine ⟨?_⟩
 have hc : (Value.agg us).cells = us := rfl
 simp only [St0, hc, hn, Nat.beq_refl, cond_true, e1]
 exact h w' e2 e3 e4
theorem aF {w : World} {base : Nat} {e : TypeId} {sz : Nat} {v : Value} {n : Nat} {xs : List Value} (h : w.ownsRow base e sz v n xs) : v.oneCell' = true := by
 rcases h.2 with ⟨rfl, _⟩ | ⟨g, cap, cur, rfl, _⟩ <;> rfl
theorem aI {w : World} {b1 b2 : Nat} {e1 e2 : TypeId} {s1 s2 : Nat} {v1 v2 : Value} {n1 n2 : Nat} {x1 x2 : List Value} (h1 : w.ownsRow b1 e1 s1 v1 n1 x1) (h2 : w.ownsRow b2 e2 s2 v2 n2 x2) (he : e1 ≠ e2) : ∀ k, v1.ownBlock = some k → v2.ownBlock ≠ some k := by
 intro k hk1 hk2
 rcases h1.2 with ⟨rfl, _⟩ | ⟨g, c, cur, rfl, _, hg, _⟩
 ·simp [Value.ownBlock] at hk1
 rcases h2.2 with ⟨rfl, _⟩ | ⟨g', c', cur', rfl, _, hg', _⟩
 ·simp [Value.ownBlock] at hk2
 simp [Value.ownBlock] at hk1 hk2
 subst hk1 hk2
 rw [hg] at hg'
 cases hg'
 exact he rfl
theorem iG {P : Program} {t e : TypeId} {sz bytes : Nat} (E : ElemT P t e sz bytes) (hsz : 0 < sz) {w : World} {base : Nat} {v : Value} {n : Nat} {xs : List Value} (h : w.ownsRow base e sz v n xs) (ty : TypeId)
  (a : Addr) (m c : Nat) (hm : 0 < m) (news : List Value) (hl : news.length = m * sz) (hnews : ∀ j u, news[j]? = some u → w.cell? (a.add j) = some u) (h1 : ∀ u ∈ news, u.oneCell' = true)
  (h63 : n + m ≤ maxLen) (hbytes : (n + m) * bytes ≤ 140737488355328) (hbase : base ≤ w.heap.size) :
  ∃ v' w', (Builtin.append_ #[t, t] ty #[v, .slice (some a) m c]).run P w = .ok v' w' ∧ w'.ownsRow base e sz v' (n + m) (xs ++ news) ∧
   ((∃ g, v.ownBlock = some g ∧ v'.ownBlock = some g ∧ Fm (· = g) w w') ∨ (∃ g, v'.ownBlock = some g ∧ w.heap.size ≤ g ∧ Fm (fun _ => False) w w')) := by
 obtain ⟨i, z, hi, hz, hs, hb, hzs⟩ := E.info
 obtain ⟨v', w', hr, ho, hg, hn⟩ := run_append_own (P := P) w base t ty e i z sz bytes E.sl hi hz hs hb hzs hsz v n xs h a m c news hl hnews h1 h63 hbytes hbase
 refine ⟨v', w', hr, ho, ?_⟩
 unfold maxLen at h63
 rcases h.2 with ⟨rfl, rfl⟩ | ⟨g, cap, cur, rfl, hbg, hgg, hnc, hcm, hcs, htake⟩
 ·have hr2 := run_append_nil (P := P) w t ty e i z E.sl hi hz a m c news (by rw [hs]; exact hl) hnews (by omega) (by omega) (by rw [hb]; rw [Nat.zero_add] at hbytes; omega)
  rw [hr] at hr2
  cases hr2
  exact .inr ⟨w.heap.size, rfl, Nat.le_refl _, (Fm.drew _ w).trans (Fm.alloc _ w.drew _) (fun _ _ e => e) (fun _ _ e => e)⟩
 ·by_cases hroom : n + m ≤ cap
  ·have hfit : n * i.size + news.length ≤ cur.size := by rw [hl, hcs, hs, ← Nat.add_mul]; exact Nat.mul_le_mul_right _ hroom
   have hr2 := run_append_room (P := P) w t ty e i E.sl hi g n cap cur hgg a m c news (by rw [hs]; exact hl) hnews h1 hroom hfit
   rw [hr] at hr2
   cases hr2
   exact .inl ⟨g, rfl, rfl, Fm.grown hg (fun k hk _ => by cases hk; rfl)⟩
  ·have holds : ∀ j u, xs[j]? = some u → w.cell? ((⟨g, 0, none⟩ : Addr).add j) = some u := h.cells (g := g) rfl
   have hr2 := run_append_grow (P := P) w t ty e i z E.sl hi hz ⟨g, 0, none⟩ n cap xs (by rw [hs]; exact h.1) holds a m c news (by rw [hs]; exact hl) hnews (by omega) (by omega) (by rw [hb]; exact growslice_fits (by omega) hbytes)
   rw [hr] at hr2
   cases hr2
   exact .inr ⟨w.heap.size, rfl, Nat.le_refl _, (Fm.drew _ w).trans (Fm.alloc _ w.drew _) (fun _ _ e => e) (fun _ _ e => e)⟩
theorem bq {P : Program} {t e : TypeId} {sz bytes : Nat} (E : ElemT P t e sz bytes) (hsz : 0 < sz) {w : World} {base : Nat} {v x : Value} {n : Nat} {xs : List Value} {k : KV} (ty : TypeId) {cs : List Value} (hcs : cs.length = sz)
  (hbs : (Instr.buildSlice t 1 #[(0, x)]).run P w = .ok (.slice (some ⟨w.heap.size, 0, none⟩) 1 1) (w.alloc (.cells cs.toArray e))) (hx : ∀ u ∈ cs, u.oneCell' = true)
  (h : w.ownsRow base e sz v n xs) (h63 : n + 1 ≤ maxLen) (hbytes : (n + 1) * bytes ≤ 140737488355328) (hbase : base ≤ w.heap.size)
  (hk : ∀ v' w', w'.ownsRow base e sz v' (n + 1) (xs ++ cs) → ((∃ g, v.ownBlock = some g ∧ v'.ownBlock = some g ∧ Fm (· = g) w w') ∨ (∃ g, v'.ownBlock = some g ∧ w.heap.size ≤ g ∧ Fm (fun _ => False) w w')) → k v' w') :
  RunS P (Instr.buildSlice t 1 #[(0, x)]) w (fun t1 w1 => RunS P (Builtin.append_ #[t, t] ty #[v, t1]) w1 k) := by
 refine af hbs ?_
 have hfa := Fm.alloc (fun _ => False) w (.cells cs.toArray e)
 obtain ⟨v', w', hr, ho, hc⟩ := iG E hsz (h.alloc (.cells cs.toArray e)) ty ⟨w.heap.size, 0, none⟩ 1 1 (by omega) cs (by omega) (fun j u hj => by
  rw [bv, Nat.zero_add, ag (az w _)]; simpa using hj) hx h63 hbytes (by rw [bo]; omega)
 refine af hr (hk v' w' ho ?_)
 rcases hc with ⟨g, h1, h2, h3⟩ | ⟨g, h1, h2, h3⟩
 ·exact .inl ⟨g, h1, h2, hfa.trans h3 (fun _ _ e => e.elim) (fun _ _ e => e)⟩
 ·rw [bo] at h2
  exact .inr ⟨g, h1, by omega, hfa.trans h3 (fun _ _ e => e) (fun _ _ e => e)⟩
def VRow (w : World) (g : Nat) (e : TypeId) (xs : List Value) : Prop := w.heap[g]? = some (.cells xs.toArray e)
theorem VRow.keep {S : Nat → Prop} {w w' : World} {g : Nat} {e : TypeId} {l : List Value} (h : VRow w g e l) (hf : Fm S w w') (hs : ¬ S g) : VRow w' g e l := hf.heap h hs
theorem VRow.lt {w : World} {g : Nat} {e : TypeId} {l : List Value} (h : VRow w g e l) : g < w.heap.size := aq h
theorem VRow.cell {w : World} {g : Nat} {e : TypeId} {l : List Value} (h : VRow w g e l) (i : Nat) : w.cell? ⟨g, i, none⟩ = l[i]? := by
 rw [ag h, List.getElem?_toArray]
theorem VRow.put {w : World} {g : Nat} {e : TypeId} {l : List Value} (h : VRow w g e l) {i : Nat} (hi : i < l.length) {u : Value} (hu : u.oneCell' = true) {k : KV}
  (hk : ∀ w', VRow w' g e (l.set i u) → w'.heap.size = w.heap.size → Fm (· = g) w w' → k undef w') : St 1 w (.pointer (some ⟨g, i, none⟩)) u k := by
 refine ay h (by rw [List.size_toArray]; exact hi) hu fun w' h1 h2 h3 => hk w' ?_ h2 h3
 unfold VRow
 rw [h1]
 congr 2
 apply Array.ext'
 simp only [Array.toList_setIfInBounds]
def PRow (w : World) (g : Nat) (e : TypeId) (xs : List Value) : Prop := ∃ ys, VRow w g e (xs ++ ys)
theorem PRow.keep {S : Nat → Prop} {w w' : World} {g : Nat} {e : TypeId} {l : List Value} (h : PRow w g e l) (hf : Fm S w w') (hs : ¬ S g) : PRow w' g e l := by
 obtain ⟨ys, h⟩ := h; exact ⟨ys, h.keep hf hs⟩
theorem PRow.lt {w : World} {g : Nat} {e : TypeId} {l : List Value} (h : PRow w g e l) : g < w.heap.size := by obtain ⟨ys, h⟩ := h; exact h.lt
theorem PRow.cell {w : World} {g : Nat} {e : TypeId} {l : List Value} (h : PRow w g e l) {i : Nat} {x : Value} (hi : l[i]? = some x) : w.cell? ⟨g, i, none⟩ = some x := by
 obtain ⟨ys, h⟩ := h
 rw [h.cell, List.getElem?_append_left (List.getElem?_eq_some_iff.1 hi).1, hi]
theorem PRow.put {w : World} {g : Nat} {e : TypeId} {l : List Value} (h : PRow w g e l) {i : Nat} (hi : i < l.length) {u : Value} (hu : u.oneCell' = true) {k : KV}
  (hk : ∀ w', PRow w' g e (l.set i u) → w'.heap.size = w.heap.size → Fm (· = g) w w' → k undef w') : St 1 w (.pointer (some ⟨g, i, none⟩)) u k := by
 obtain ⟨ys, h⟩ := h
 refine h.put (by simp; omega) hu fun w' h1 h2 h3 => hk w' ⟨ys, ?_⟩ h2 h3
 rw [List.set_append_left _ _ hi] at h1; exact h1
theorem PRow.of_own {w : World} {base : Nat} {e : TypeId} {v : Value} {n : Nat} {xs : List Value} (h : w.ownsRow base e 1 v n xs) (hn : n ≠ 0) : ∃ g cap, v = .slice (some ⟨g, 0, none⟩) n cap ∧ base ≤ g ∧ v.ownBlock = some g ∧ n ≤ cap ∧ PRow w g e xs := by
 rcases h.2 with ⟨_, h2⟩ | ⟨g, cap, cur, rfl, hb, hg, h1, h2, h3, h4⟩
 ·exact absurd h2 hn
 ·refine ⟨g, cap, rfl, hb, rfl, h1, cur.toList.drop (n * 1), ?_⟩
  unfold VRow
  rw [hg, ← h4, List.take_append_drop]
theorem tX {P : Program} {e : TypeId} {z : Value} {n b : Nat} (h : (P.info? e).map (fun i => (i.zero, i.size, i.bytes)) = some (some z, n, b)) : ∃ i, P.info? e = some i ∧ i.zero = some z ∧ i.size = n ∧ i.bytes = b := by
 cases hp : P.info? e with
 | none => rw [hp] at h; cases h
 | some i =>
  rw [hp] at h
  simp only [Option.map_some, Option.some.injEq, Prod.mk.injEq] at h
  exact ⟨i, rfl, h⟩
theorem VRow.make {P : Program} {t e : TypeId} {i : TypeInfo} {z : Value} (ht : P.underlying t = some (.slice e)) (hi : P.info? e = some i) (hz : i.zero = some z) (hs : i.size = 1) (hc : z.cells = #[z]) (w : World) (n : Nat) (hb : i.bytes * n ≤ 281474976710656) (h : n ≤ 9223372036854775807) :
  (Instr.makeSlice t (.int .i64 n) (.int .i64 n)).run P w = .ok (.slice (some ⟨w.heap.size, 0, none⟩) n n) (w.alloc (.cells (List.replicate n z).toArray e)) := by
 have hb' : (i.bytes : Int) * (n : Int) ≤ 281474976710656 := by
  have : ((i.bytes * n : Nat) : Int) ≤ 281474976710656 := by omega
  rwa [Int.natCast_mul] at this
 have hr := run_make (P := P) w t e i z ht hi hz .i64 .i64 n n (by omega) (Int.le_refl _) hb' (by omega)
 rw [hr]
 congr 3
 simp only [Int.toNat_natCast]
 congr 1
 rw [hs, Nat.mul_one, hc]
 apply Array.ext'
 apply List.ext_getElem?
 intro j
 simp only [madeCells, Array.toList_map, Array.toList_range, List.getElem?_map, List.getElem?_replicate]
 have hz' : ∀ q, (#[z] : Array Value)[q % (#[z] : Array Value).size]! = z := by
  intro q
  have : (#[z] : Array Value).size = 1 := rfl
  rw [this, Nat.mod_one]; rfl
 by_cases hj : j < n
 ·rw [if_pos hj, List.getElem?_range hj]; simp [Nat.mod_one]
 ·rw [if_neg hj, List.getElem?_eq_none (by simpa using hj)]; rfl
theorem eL {w : World} {b : Nat} {cs : Array Value} {t : TypeId} {fz : Nat × Nat} (h : w.heap[b]? = some (.cells cs t fz)) : ∀ (k i : Nat), i + k ≤ cs.size → aE w ⟨b, 0, none⟩ i k = some ((cs.toList.drop i).take k)
 | 0, i, _ => by simp [aE]
 | k + 1, i, hi => by
  have hlt : i < cs.toList.length := by rw [Array.length_toList]; omega
  have hc : w.cell? ((⟨b, 0, none⟩ : Addr).add i) = some (cs.toList[i]) := by rw [bv, Nat.zero_add, ag h]; simp
  simp only [aE, hc, eL h k (i + 1) (by omega), Option.map_some]
  rw [List.drop_eq_getElem_cons hlt, List.take_succ_cons]
theorem ax {w : World} {b : Nat} {cs : Array Value} {t : TypeId} {fz : Nat × Nat} (h : w.heap[b]? = some (.cells cs t fz)) {n : Nat} (hn : cs.size = n) : aP w ⟨b, 0, none⟩ n = some (.agg cs) := by
 unfold aP
 rw [eL h n 0 (by omega)]
 simp only [List.drop_zero, Option.map_some]
 rw [List.take_of_length_le (by rw [Array.length_toList]; omega)]
theorem di {P : Program} {f : Fr} {w : World} {a : Nat} {t ty : TypeId} {g n : Nat} {cs : Array Value} {fz : Nat × Nat} (hf : f a = .pointer (some ⟨g, 0, none⟩)) (hA : mR P t = some true) (hS : cm P t = some n) (hb : w.heap[g]? = some (.cells cs ty fz)) (hn : cs.size = n) : lR P f w (.cell a t) = some (.agg cs) := by
 have h := eL hb n 0 (by omega)
 rw [List.drop_zero, List.take_of_length_le (by rw [Array.length_toList]; omega)] at h
 simp only [lR, hf, hA, hS, h, Option.map_some]
theorem aB {w : World} {b n : Nat} {cs : Array Value} {t : TypeId} {us : Array Value} {k : KV} (hb : w.heap[b]? = some (.cells cs t)) (hc : cs.size = n) (hn : us.size = n) (hu : ∀ u ∈ us.toList, u.oneCell' = true) (h : ∀ w', w'.heap[b]? = some (.cells us t) → w'.heap.size = w.heap.size → Fm (· = b) w w' → k undef w') : St n w (.pointer (some ⟨b, 0, none⟩)) (.agg us) k := by
 refine th hb hn (by omega) hu fun w' h1 h2 h3 => h w' ?_ h2 h3
 rw [h1]
 congr 2
 have key : ∀ (l : List Value) (cs : Array Value) (o : Nat), o + l.length = cs.size → (ov cs o l).toList = cs.toList.take o ++ l := by
  intro l
  induction l with
  | nil => intro cs o ho; simp only [ov, List.append_nil]; rw [List.take_of_length_le (by rw [Array.length_toList]; simp at ho; omega)]
  | cons v l ih =>
   intro cs o ho
   simp only [List.length_cons] at ho
   rw [ov, ih _ (o + 1) (by rw [Array.size_setIfInBounds]; omega), Array.toList_setIfInBounds]
   have hlt : o < cs.toList.length := by rw [Array.length_toList]; omega
   rw [List.take_set, List.take_add_one, List.getElem?_eq_getElem hlt]
   simp only [Option.toList_some]
   rw [List.set_append_right _ _ (by rw [List.length_take]; omega), List.length_take, Nat.min_eq_left (by omega), Nat.sub_self, List.set_cons_zero, List.append_assoc]; rfl
 apply Array.ext'
 have := key us.toList cs 0 (by rw [Array.length_toList]; omega)
 simpa using this
abbrev Bs := List UInt8
def str (l : Bs) : ByteArray := ⟨l.toArray⟩
theorem aj (l : Bs) : (str l).size = l.length := by simp [str, ByteArray.size]
theorem aD {a b : Bs} : str a = str b ↔ a = b := by
 constructor
 ·intro h
  have h2 : (str a).data = (str b).data := by rw [h]
  simpa [str] using h2
 ·rintro rfl; rfl
theorem oy (a b : Bs) : str a ++ str b = str (a ++ b) := by
 apply ByteArray.ext
 simp [str, ByteArray.data_append]
theorem eW (l : Bs) (i j : Nat) : (str l).extract i j = str ((l.take j).drop i) := by
 apply ByteArray.ext
 apply Array.ext'
 rw [ByteArray.data_extract, Array.toList_extract]
 simp only [str, List.extract_eq_take_drop]
 rw [List.drop_take]
theorem rP (s : ByteArray) : str s.data.toList = s := by
 apply ByteArray.ext
 simp [str]
theorem br : ByteArray.mk #[] = str [] := rfl
abbrev stv (l : Bs) : Value := .string (str l)
theorem kE (d : TypeDesc) (a b : Bs) (h : a.length + b.length ≤ 9223372036854775807) : aa d .add (stv a) (stv b) = some (stv (a ++ b)) := by
 have : ¬ (((str a).size + (str b).size : Nat) : Int) > IntKind.i64.max := by
  rw [aj, aj]; show ¬ _ > (9223372036854775807 : Int); omega
 simp only [aa, ua, if_neg this, oy]
theorem df {l : Bs} {i : Nat} (h : i ≤ l.length) (k : IntKind) : slS (stv l) none (some (.int k i)) = some (stv (l.take i)) := by
 have e1 : bnd (str l).size (str l).size (some (.int k i)) = some i := eC (by rw [aj]; exact h) k
 have e2 : bnd i 0 none = some 0 := rfl
 simp only [slS, e1, e2, Option.bind_some, Option.map_some, eW, List.drop_zero]
theorem cQ {l : Bs} {i : Nat} (h : i ≤ l.length) (k : IntKind) : slS (stv l) (some (.int k i)) none = some (stv (l.drop i)) := by
 have e1 : bnd (str l).size (str l).size none = some (str l).size := rfl
 have e2 : bnd (str l).size 0 (some (.int k i)) = some i := eC (by rw [aj]; exact h) k
 rw [aj] at e1 e2
 simp only [slS, aj, e1, e2, Option.bind_some, Option.map_some, eW, List.take_length]
theorem cU {l : Bs} {i j : Nat} (hij : i ≤ j) (h : j ≤ l.length) (k k' : IntKind) : slS (stv l) (some (.int k i)) (some (.int k' j)) = some (stv ((l.drop i).take (j - i))) := by
 have e1 : bnd (str l).size (str l).size (some (.int k' j)) = some j := eC (by rw [aj]; exact h) k'
 have e2 : bnd j 0 (some (.int k i)) = some i := eC hij k
 simp only [slS, e1, e2, Option.bind_some, Option.map_some, eW, List.drop_take]
def bc (l : Bs) : List Value := l.map fun b => Value.int .u8 b.toNat
theorem ba (l : Bs) : (bc l).length = l.length := by simp [bc]
theorem bA (a b : Bs) : bc (a ++ b) = bc a ++ bc b := by simp [bc]
theorem pF (l : Bs) (i : Nat) : (bc l).take i = bc (l.take i) := by simp [bc, List.map_take]
theorem mw (l : Bs) (i : Nat) : (bc l).drop i = bc (l.drop i) := by simp [bc, List.map_drop]
theorem nd (l : Bs) : ∀ u ∈ bc l, u.oneCell' = true := by
 intro u hu; obtain ⟨b, _, rfl⟩ := List.mem_map.1 hu; rfl
theorem pS (l : Bs) (i : Nat) : (bc l)[i]? = (l[i]?).map fun b => Value.int .u8 b.toNat := by simp [bc]
structure ByteT (P : Program) (t e s : TypeId) : Prop where
 sl : P.underlying t = some (.slice e)
 u8 : P.underlying e = some (.int .u8)
 st : P.underlying s = some .string
 info : ∃ i, P.info? e = some i ∧ i.zero = some (.int .u8 0) ∧ i.size = 1 ∧ i.bytes = 1
theorem mV {P : Program} {t e s : TypeId} (h1 : P.underlying t = some (.slice e)) (h2 : P.underlying e = some (.int .u8)) (h3 : P.underlying s = some .string)
  (hi : (P.info? e).map (fun i => (i.zero.map (fun z => match z with | .int .u8 0 => true | _ => false), i.size, i.bytes)) = some (some true, 1, 1)) : ByteT P t e s := by
 refine ⟨h1, h2, h3, ?_⟩
 cases hp : P.info? e with
 | none => rw [hp] at hi; cases hi
 | some i =>
  rw [hp] at hi
  simp only [Option.map_some, Option.some.injEq, Prod.mk.injEq] at hi
  cases hz : i.zero with
  | none => rw [hz] at hi; simp at hi
  | some z =>
   rw [hz] at hi
   simp only [Option.map_some, Option.some.injEq] at hi
   refine ⟨i, rfl, ?_, hi.2.1, hi.2.2⟩
   have := hi.1
   split at this
   ·exact hz
   ·cases this
def BRow (w : World) (g : Nat) (e : TypeId) (l : Bs) : Prop := w.heap[g]? = some (.cells (bc l).toArray e)
theorem BRow.keep {S : Nat → Prop} {w w' : World} {g : Nat} {e : TypeId} {l : Bs} (h : BRow w g e l) (hf : Fm S w w') (hs : ¬ S g) : BRow w' g e l := hf.heap h hs
theorem BRow.lt {w : World} {g : Nat} {e : TypeId} {l : Bs} (h : BRow w g e l) : g < w.heap.size := aq h
theorem BRow.cell {w : World} {g : Nat} {e : TypeId} {l : Bs} (h : BRow w g e l) (i : Nat) : w.cell? ⟨g, i, none⟩ = (l[i]?).map fun b => Value.int .u8 b.toNat := by
 rw [ag h, List.getElem?_toArray, pS]
theorem BRow.make {P : Program} {t e s : TypeId} (B : ByteT P t e s) (w : World) (n : Nat) (h : n ≤ 281474976710656) :
  (Instr.makeSlice t (.int .i64 n) (.int .i64 n)).run P w = .ok (.slice (some ⟨w.heap.size, 0, none⟩) n n) (w.alloc (.cells (bc (List.replicate n 0)).toArray e)) := by
 obtain ⟨i, h1, h2, h3, h4⟩ := B.info
 have hr := run_make (P := P) w t e i _ B.sl h1 h2 .i64 .i64 n n (by omega) (Int.le_refl _) (by rw [h4]; omega) (by omega)
 rw [hr]
 congr 3
 simp only [Int.toNat_natCast]
 congr 1
 rw [h3, Nat.mul_one]
 apply Array.ext'
 apply List.ext_getElem?
 intro j
 simp only [madeCells, bc, List.map_replicate, Array.toList_map, Array.toList_range, List.getElem?_map, List.getElem?_replicate, List.getElem?_range]
 have hz : ∀ q, (Value.cells (.int .u8 0))[q % (Value.cells (.int .u8 0)).size]! = Value.int .u8 0 := by
  intro q
  have : (Value.cells (.int .u8 0)).size = 1 := rfl
  rw [this, Nat.mod_one]; rfl
 by_cases hj : j < n
 ·rw [if_pos hj, List.getElem?_range hj]; simp [hz]
 ·rw [if_neg hj, List.getElem?_eq_none (by simpa using hj)]; rfl
theorem BRow.conv {P : Program} {t e s : TypeId} (B : ByteT P t e s) {w : World} {g : Nat} {e' : TypeId} {l : Bs} (h : BRow w g e' l) {o n : Nat} (hn : o + n ≤ l.length) (c : Nat) :
  (convert t s (.slice (some ⟨g, o, none⟩) n c)).run P w = .ok (stv ((l.drop o).take n)) w := by
 have hr := run_convert_bytes_arg (P := P) w t e B.sl B.u8 g o n c (((l.drop o).take n).map fun b => (b.toNat : Int)) (by simp; omega) (fun i hi => by
  rw [h.cell]
  have : o + i < l.length := by omega
  simp [List.getD, List.getElem?_take, hi, List.getElem?_drop, this]) s B.st
 rw [hr]
 congr 2
 apply ByteArray.ext
 simp only [strOfNums, str, List.map_map]
 congr 1
 conv => rhs; rw [← List.map_id ((l.drop o).take n)]
 apply List.map_congr_left
 intro x _
 simp
theorem jT {P : Program} {t e s : TypeId} (B : ByteT P t e s) (w : World) (n c : Nat) : (convert t s (.slice none n c)).run P w = .ok (stv []) w := by
 rw [run_convert_bytes_nil (P := P) w t e B.sl B.u8 n c s B.st]; rfl
theorem BRow.copyS {P : Program} {t e s : TypeId} (B : ByteT P t e s) {w : World} {g : Nat} {l : Bs} (h : BRow w g e l) {o n : Nat} {x : Bs} (hx : x.length ≤ n) (hn : o + x.length ≤ l.length) (c : Nat) (ty : TypeId) :
  ∃ w', (Builtin.copy_ #[t, s] ty #[.slice (some ⟨g, o, none⟩) n c, stv x]).run P w = .ok (goInt x.length) w' ∧ BRow w' g e (l.take o ++ x ++ l.drop (o + x.length)) ∧ w'.heap.size = w.heap.size ∧ Fm (· = g) w w' := by
 obtain ⟨i, h1, h2, h3, h4⟩ := B.info
 have hr := Lib.run_copy_row_string (P := P) w t s ty e g o n c (str x) _ e B.sl (by rw [h1]; simp [h3]) h (by rw [aj]; exact hx) (by rw [aj, List.size_toArray, ba]; exact hn)
 rw [aj] at hr
 refine ⟨_, hr, ?_, ?_, ?_⟩
 ·show (w.setRow g _).heap[g]? = _
  rw [setRow_heap w g _ _ e _ h]
  congr 2
  rw [show Lib.byteCells (str x).data.toList = bc x from rfl, bA, bA, pF, mw]
 ·simp
 ·exact ⟨rfl, rfl, rfl, by simp, fun b hb hs => setRow_other w g b _ hs⟩
theorem BRow.put {w : World} {g : Nat} {e : TypeId} {l : Bs} (h : BRow w g e l) {i : Nat} (hi : i < l.length) {b : UInt8} {k : KV}
  (hk : ∀ w', BRow w' g e (l.set i b) → w'.heap.size = w.heap.size → Fm (· = g) w w' → k undef w') : St 1 w (.pointer (some ⟨g, i, none⟩)) (.int .u8 b.toNat) k := by
 refine ay h (by rw [List.size_toArray, ba]; exact hi) rfl fun w' h1 h2 h3 => hk w' ?_ h2 h3
 unfold BRow
 rw [h1]
 congr 2
 apply Array.ext'
 simp only [Array.toList_setIfInBounds, bc, List.map_set]
def BX (w : World) (g : Nat) (e : TypeId) (l : Bs) : Prop := ∃ cs fz, w.heap[g]? = some (.cells cs e fz) ∧ cs.toList.take l.length = bc l ∧ l.length ≤ cs.size ∧ (fz = (0, 0) ∨ l.length ≤ fz.1)
theorem BX.cell {w : World} {g : Nat} {e : TypeId} {l : Bs} (h : BX w g e l) {i : Nat} {b : UInt8} (hi : l[i]? = some b) : w.cell? ⟨g, i, none⟩ = some (.int .u8 b.toNat) := by
 obtain ⟨cs, fz, h1, h2, h3, h4⟩ := h
 have hlt := (List.getElem?_eq_some_iff.1 hi).1
 rw [ag h1]
 have : (cs.toList.take l.length)[i]? = some (.int .u8 b.toNat) := by rw [h2, pS, hi]; rfl
 rw [List.getElem?_take, if_pos hlt] at this
 simpa using this
theorem BX.conv {P : Program} {t e s : TypeId} (B : ByteT P t e s) {w : World} {g : Nat} {e' : TypeId} {l : Bs} (h : BX w g e' l) {o n : Nat} (hn : o + n ≤ l.length) (c : Nat) :
  (convert t s (.slice (some ⟨g, o, none⟩) n c)).run P w = .ok (stv ((l.drop o).take n)) w := by
 have hr := run_convert_bytes_arg (P := P) w t e B.sl B.u8 g o n c (((l.drop o).take n).map fun b => (b.toNat : Int)) (by simp; omega) (fun i hi => by
  have hlt : o + i < l.length := by omega
  rw [h.cell (List.getElem?_eq_getElem hlt)]
  simp [List.getD, List.getElem?_take, hi, List.getElem?_drop, hlt]) s B.st
 rw [hr]
 congr 2
 apply ByteArray.ext
 simp only [strOfNums, str, List.map_map]
 congr 1
 conv => rhs; rw [← List.map_id ((l.drop o).take n)]
 apply List.map_congr_left
 intro x _
 simp
theorem dH {P : Program} {t e s : TypeId} (B : ByteT P t e s) {w : World} {base : Nat} {v : Value} {n : Nat} {l : Bs} (h : w.ownsRow base e 1 v n (bc l)) (x : Bs) (ty : TypeId)
  (h63 : n + x.length ≤ 140737488355328) (hbase : base ≤ w.heap.size) :
  ∃ v' w', (Builtin.append_ #[t, s] ty #[v, stv x]).run P w = .ok v' w' ∧ w'.ownsRow base e 1 v' (n + x.length) (bc (l ++ x)) ∧ Fm (fun b => v.ownBlock = some b) w w' ∧ (v' = .slice none 0 0 ↔ v = .slice none 0 0 ∧ x.length = 0) := by
 obtain ⟨i, h1, h2, h3, h4⟩ := B.info
 obtain ⟨v', w', hr, ho, hg, hn⟩ := Lib.run_append_own_string (P := P) (w := w) base t s ty e i B.sl B.st h1 h2 h3 h4 v n _ h (str x) (by rw [aj]; unfold maxLen; omega) (by rw [aj]; omega) hbase
 rw [aj] at ho hn
 refine ⟨v', w', hr, ?_, Fm.grown (S := fun b => v.ownBlock = some b) hg (fun k hk _ => hk), hn⟩
 rw [bA]; exact ho
theorem jQ {P : Program} {t e s : TypeId} (B : ByteT P t e s) {w : World} {base : Nat} {v : Value} {n : Nat} {l : Bs} (h : w.ownsRow base e 1 v n (bc l)) : (convert t s v).run P w = .ok (stv l) w := by
 have hl := h.1
 rw [ba, Nat.mul_one] at hl
 rcases (lA h).2 with ⟨rfl, h0⟩ | ⟨g, cap, rfl, _, _, hc⟩
 ·rw [h0] at hl
  rw [List.eq_nil_of_length_eq_zero hl]
  exact jT B w 0 0
 ·have hr := run_convert_bytes_arg (P := P) w t e B.sl B.u8 g 0 n cap (l.map fun b => (b.toNat : Int)) (by simpa using hl) (fun i hi => by
   rw [Nat.zero_add, hc i hi, pS]
   have : i < l.length := by omega
   simp [List.getD, this]) s B.st
  rw [hr]
  congr 2
  apply ByteArray.ext
  simp only [strOfNums, str, List.map_map]
  congr 1
  conv => rhs; rw [← List.map_id l]
  apply List.map_congr_left
  intro x _
  simp
theorem nu {g o n c i j : Nat} (hij : i ≤ j) (hj : j ≤ c) (k k' : IntKind) : ∃ o', slV 1 (.slice (some ⟨g, o, none⟩) n c) (some (.int k i)) (some (.int k' j)) none = some (.slice (some ⟨g, o', none⟩) (j - i) (c - i)) ∧ (i < c → o' = o + i) ∧ o' ≤ o + i ∧ (j = i → True) := by
 have e1 : bnd c c none = some c := rfl
 have e2 : bnd c n (some (.int k' j)) = some j := eC hj k'
 have e3 : bnd j 0 (some (.int k i)) = some i := eC hij k
 refine ⟨if c = i then o else o + i, ?_, fun h => by rw [if_neg (by omega)], by split <;> omega, fun _ => trivial⟩
 simp only [slV, ub, e1, e2, e3, Option.bind_some, Option.map_some]
 congr 2
 split
 ·rfl
 ·rw [bv, Nat.mul_one]
theorem qz {g o n c i : Nat} (hi : i ≤ n) (hn : n ≤ c) (k : IntKind) : ∃ o', slV 1 (.slice (some ⟨g, o, none⟩) n c) (some (.int k i)) none none = some (.slice (some ⟨g, o', none⟩) (n - i) (c - i)) ∧ (i < c → o' = o + i) ∧ o' ≤ o + i := by
 have e1 : bnd c c none = some c := rfl
 have e3 : bnd n 0 (some (.int k i)) = some i := eC hi k
 refine ⟨if c = i then o else o + i, ?_, fun h => by rw [if_neg (by omega)], by split <;> omega⟩
 simp only [slV, ub, e1, e3, Option.bind_some, Option.map_some]
 congr 2
 split
 ·rfl
 ·rw [bv, Nat.mul_one]
def sz1 (vs : List Value) : Nat := match (vs[1]? : Option Value) with
 | some (.string s) => s.size
 | _ => 0
theorem sg (a : Value) (s : Bs) (l : List Value) : sz1 (a :: stv s :: l) = s.length := by simp [sz1, aj]
abbrev iv (n : Int) : Value := Value.int .i64 n
theorem aQ {n : Int} (h : (Lit.int .i64 n).wf = true) : -9223372036854775808 ≤ n ∧ n ≤ 9223372036854775807 := by
 have h1 : (decide (-9223372036854775808 ≤ n) && decide (n ≤ 9223372036854775807)) = true := h
 simpa using h1
theorem bH {n : Nat} (h : n ≤ 9223372036854775807) : IntKind.i64.wrap (n : Int) = n := ab (by omega)
theorem tC (d : TypeDesc) {a b : Int} (hb : b ≠ 0) (h : -9223372036854775808 ≤ a.tdiv b ∧ a.tdiv b ≤ 9223372036854775807) : aa d .quo (iv a) (iv b) = some (iv (a.tdiv b)) := by
 rw [mW, if_neg hb, ab h]
theorem cu (d : TypeDesc) {n m : Nat} (hm : 0 < m) (h : n ≤ 9223372036854775807) {b : Int} (hb : b = (m : Int)) : aa d .quo (iv n) (iv b) = some (iv ((n / m : Nat) : Int)) := by
 subst hb
 have e : (n : Int).tdiv (m : Int) = ((n / m : Nat) : Int) := by rw [Int.tdiv_eq_ediv_of_nonneg (by omega)]; rfl
 have hle : n / m ≤ n := Nat.div_le_self n m
 rw [tC d (by omega) (by rw [e]; generalize n / m = q at *; omega), e]
theorem bC (d : TypeDesc) {n m : Nat} (hm : 0 < m) (h : n ≤ 9223372036854775807) {b : Int} (hb : b = (m : Int)) : aa d .rem (iv n) (iv b) = some (iv ((n % m : Nat) : Int)) := by
 subst hb
 have e : (n : Int).tmod (m : Int) = ((n % m : Nat) : Int) := by rw [Int.tmod_eq_emod_of_nonneg (by omega)]; rfl
 have hle : n % m ≤ n := Nat.mod_le n m
 rw [jN, if_neg (by omega), e]
theorem pQ (d : TypeDesc) {a b : Int} (ha : 0 ≤ a) (hb : 0 < b) (h : a ≤ 9223372036854775807) : aa d .quo (iv a) (iv b) = some (iv (a / b)) := by
 obtain ⟨n, rfl⟩ := Int.eq_ofNat_of_zero_le ha
 obtain ⟨m, rfl⟩ := Int.eq_ofNat_of_zero_le (show 0 ≤ b by omega)
 rw [cu d (n := n) (m := m) (by omega) (by omega) rfl]; rfl
theorem jP (d : TypeDesc) {a b : Int} (ha : 0 ≤ a) (hb : 0 < b) (h : a ≤ 9223372036854775807) : aa d .rem (iv a) (iv b) = some (iv (a % b)) := by
 obtain ⟨n, rfl⟩ := Int.eq_ofNat_of_zero_le ha
 obtain ⟨m, rfl⟩ := Int.eq_ofNat_of_zero_le (show 0 ≤ b by omega)
 rw [bC d (n := n) (m := m) (by omega) (by omega) rfl]; rfl
theorem tH {n : Int} (h : -9223372036854775808 ≤ n ∧ n ≤ 9223372036854775807) : unV .xor (iv n) = some (iv (-(n + 1))) := by
 have e1 : BitVec.ofInt 64 (-1) = BitVec.allOnes 64 := by decide
 have e2 : ((BitVec.ofInt 64 (-1)) ^^^ (BitVec.ofInt 64 n)).toNat = 18446744073709551615 - (n % 18446744073709551616).toNat := by
  rw [e1, BitVec.allOnes_xor, BitVec.toNat_not, BitVec.toNat_ofInt]; rfl
 have e3 : unV .xor (iv n) = some (iv (IntKind.i64.wrap (((BitVec.ofInt 64 (-1)) ^^^ (BitVec.ofInt 64 n)).toNat : Int))) := rfl
 rw [e3, e2]
 congr 2
 unfold IntKind.wrap
 simp [IntKind.bits, IntKind.signed]
 omega
def vU (k : IntKind) (a b : Int) : Int := k.wrap ((BitVec.ofInt k.bits a) &&& (BitVec.ofInt k.bits b)).toNat
theorem rS (d : TypeDesc) (k : IntKind) (a b : Int) : aa d .and (.int k a) (.int k b) = some (.int k (vU k a b)) := by simp [aa, mz, lH, vU]
theorem aN (w n : Nat) (h : n < 2 ^ w) : (BitVec.ofInt w (n : Int)).toNat = n := by
 rw [BitVec.toNat_ofInt]
 have e : (((2 ^ w : Nat) : Int)) = (2 ^ w : Nat) := rfl
 rw [Int.emod_eq_of_lt (by omega) (by omega)]; rfl
def orI (k : IntKind) (a b : Int) : Int := k.wrap ((BitVec.ofInt k.bits a) ||| (BitVec.ofInt k.bits b)).toNat
theorem qi (d : TypeDesc) (k : IntKind) (a b : Int) : aa d .or (.int k a) (.int k b) = some (.int k (orI k a b)) := by simp [aa, mz, lH, orI]
theorem uO (a b : Nat) (ha : a < 256) (hb : b < 256) : vU .u8 a b = ((a &&& b : Nat) : Int) := by
 have h1 : (BitVec.ofInt 8 (a : Int)).toNat = a := aN 8 a (by omega)
 have h2 : (BitVec.ofInt 8 (b : Int)).toNat = b := aN 8 b (by omega)
 show IntKind.u8.wrap (((BitVec.ofInt 8 (a : Int)) &&& (BitVec.ofInt 8 (b : Int))).toNat : Int) = _
 rw [BitVec.toNat_and, h1, h2]
 have : a &&& b ≤ a := Nat.and_le_left
 generalize a &&& b = c at *
 unfold IntKind.wrap; simp [IntKind.bits, IntKind.signed]; omega
theorem vL {a b n : Nat} (ha : a < 2 ^ n) (hb : b < 2 ^ n) : a ||| b < 2 ^ n := Nat.or_lt_two_pow ha hb
theorem vA (a b : Nat) (ha : a < 2 ^ 63) (hb : b < 2 ^ 63) : orI .i64 a b = ((a ||| b : Nat) : Int) := by
 have h1 : (BitVec.ofInt 64 (a : Int)).toNat = a := aN 64 a (by omega)
 have h2 : (BitVec.ofInt 64 (b : Int)).toNat = b := aN 64 b (by omega)
 show IntKind.i64.wrap (((BitVec.ofInt 64 (a : Int)) ||| (BitVec.ofInt 64 (b : Int))).toNat : Int) = _
 rw [BitVec.toNat_or, h1, h2]
 have := vL ha hb
 generalize a ||| b = c at *
 exact bH (by omega)
theorem wt (a b : Nat) (ha : a < 256) (hb : b < 256) : orI .u8 a b = ((a ||| b : Nat) : Int) := by
 have h1 : (BitVec.ofInt 8 (a : Int)).toNat = a := aN 8 a (by omega)
 have h2 : (BitVec.ofInt 8 (b : Int)).toNat = b := aN 8 b (by omega)
 show IntKind.u8.wrap (((BitVec.ofInt 8 (a : Int)) ||| (BitVec.ofInt 8 (b : Int))).toNat : Int) = _
 rw [BitVec.toNat_or, h1, h2]
 have := vL (n := 8) ha hb
 generalize a ||| b = c at *
 unfold IntKind.wrap; simp [IntKind.bits, IntKind.signed]; omega
theorem aA (a b : Int) : (a == b) = decide (a = b) := by by_cases h : a = b <;> simp [h]
theorem al (a b : Int) : (a != b) = !decide (a = b) := by by_cases h : a = b <;> simp [h]
structure Dk where
 cur : List Bs
 old : List Bs
 chg : List Bool
 armed : Int
 gone : Bool
 done : Int
namespace Dk
def zsec : Bs := List.replicate 64 0
def mk0 (n : Nat) : Dk := ⟨List.replicate n zsec, List.replicate n zsec, List.replicate n false, 0, false, 0⟩
def isC (chg : List Bool) (i : Nat) : Bool := chg.getD i false
structure Wf (d : Dk) : Prop where
 n1 : d.cur.length ≤ 65536
 lo : d.old.length = d.cur.length
 lc : d.chg.length = d.cur.length
 s1 : ∀ x ∈ d.cur, x.length = 64
 s2 : ∀ x ∈ d.old, x.length = 64
 same : ∀ i, isC d.chg i = false → d.old[i]? = d.cur[i]?
 ar : 0 ≤ d.armed ∧ d.armed ≤ 9223372036854775807
def tick (d : Dk) : Dk := if 0 < d.armed then { d with done := IntKind.i64.wrap (d.done + 1), armed := d.armed - 1, gone := decide (d.armed - 1 = 0) } else { d with done := IntKind.i64.wrap (d.done + 1) }
def put (d : Dk) (i : Nat) (x : Bs) : Dk := { d with cur := d.cur.set i x, chg := d.chg.set i true }
def wr : Dk → Nat → List Bs → Dk × Int
 | d, _, [] => (d, 0)
 | d, i, x :: l => let d' := (d.put i x).tick; bif d'.gone then (d', 5) else wr d' (i + 1) l
def chunks : Nat → Bs → List Bs
 | 0, _ => []
 | k + 1, s => s.take 64 :: chunks k (s.drop 64)
def has (d : Dk) (a k : Int) : Bool := decide (0 ≤ a ∧ 0 ≤ k ∧ a ≤ d.cur.length ∧ k ≤ d.cur.length - a)
def write (d : Dk) (a : Int) (s : Bs) : Dk × Int :=
 bif d.gone then (d, 5) else bif decide (s.length % 64 ≠ 0) || !(d.has a (s.length / 64 : Nat)) then (d, 20) else d.wr a.toNat (chunks (s.length / 64) s)
def read (d : Dk) (a k : Int) : Bs × Int :=
 bif d.gone then ([], 5) else bif !(d.has a k) then ([], 20) else (((d.cur.drop a.toNat).take k.toNat).flatten, 0)
def sync (d : Dk) : Dk × Int :=
 bif d.gone then (d, 5) else let d' := d.tick; bif d'.gone then (d', 5) else ({ d' with old := d'.cur, chg := List.replicate d'.cur.length false }, 0)
def arm (d : Dk) (a : Int) : Dk × Int :=
 bif d.gone then (d, 5) else bif decide (a < 0) then (d, 1) else ({ d with armed := a }, 0)
def pend (d : Dk) : List Nat := (List.range d.cur.length).filter (isC d.chg)
def rank (chg : List Bool) (i : Nat) : Nat := ((List.range i).filter (isC chg)).length
def fold1 (f : Int) : Int := if f < 0 then -(f + 1) else f
def fate (how : List Int) (k : Nat) : Int := match how[k]? with
 | some f => fold1 f
 | none => 0
def kept (f : Int) : Nat := if f % 3 = 0 then 0 else if f % 3 = 1 then 64 else (f / 3 % 65).toNat
def torn (f : Int) (x y : Bs) : Bs := x.take (kept f) ++ y.drop (kept f)
def mend (how : List Int) (d : Dk) (i : Nat) : Bs := bif isC d.chg i then torn (fate how (rank d.chg i)) (d.cur.getD i []) (d.old.getD i []) else d.cur.getD i []
def mended (how : List Int) (d : Dk) : List Bs := (List.range d.cur.length).map (mend how d)
def crash (d : Dk) (how : List Int) : Dk := { cur := mended how d, old := mended how d, chg := List.replicate d.cur.length false, armed := 0, gone := false, done := d.done }
theorem isC_rep (n i : Nat) : isC (List.replicate n false) i = false := by
 unfold isC
 simp only [List.getD_eq_getElem?_getD, List.getElem?_replicate]
 split <;> rfl
theorem isC_set (c : List Bool) (i j : Nat) (h : i < c.length) : isC (c.set i true) j = if i = j then true else isC c j := by
 unfold isC
 simp only [List.getD_eq_getElem?_getD, List.getElem?_set]
 split
 ·rename_i e; subst e; simp [h]
 ·rfl
theorem isC_lt {c : List Bool} {i : Nat} (h : isC c i = true) : i < c.length := by
 unfold isC at h
 rcases Nat.lt_or_ge i c.length with hl | hl
 ·exact hl
 ·rw [List.getD_eq_getElem?_getD, List.getElem?_eq_none hl] at h; cases h
theorem wf_mk0 {n : Nat} (h : n ≤ 65536) : (mk0 n).Wf where
 n1 := by simpa [mk0] using h
 lo := by simp [mk0]
 lc := by simp [mk0]
 s1 := by intro x hx; simp [mk0] at hx; rw [hx.2]; rfl
 s2 := by intro x hx; simp [mk0] at hx; rw [hx.2]; rfl
 same := fun i _ => rfl
 ar := ⟨by simp [mk0], by simp [mk0]⟩
theorem tick_cur (d : Dk) : d.tick.cur = d.cur ∧ d.tick.old = d.old ∧ d.tick.chg = d.chg := by
 unfold tick; split <;> exact ⟨rfl, rfl, rfl⟩
theorem Wf.tick {d : Dk} (h : d.Wf) : d.tick.Wf := by
 obtain ⟨h1, h2, h3, h4, h5, h6, h7⟩ := h
 unfold Dk.tick
 split
 ·exact ⟨h1, h2, h3, h4, h5, h6, ⟨by simp only; omega, by simp only; omega⟩⟩
 ·exact ⟨h1, h2, h3, h4, h5, h6, h7⟩
theorem Wf.put {d : Dk} (h : d.Wf) (i : Nat) {x : Bs} (hx : x.length = 64) : (d.put i x).Wf where
 n1 := by simpa [Dk.put] using h.n1
 lo := by simpa [Dk.put] using h.lo
 lc := by simpa [Dk.put] using h.lc
 s1 := by
  intro y hy
  rcases List.mem_or_eq_of_mem_set hy with hy | rfl
  ·exact h.s1 y hy
  ·exact hx
 s2 := h.s2
 same := by
  intro j hj
  rcases Nat.lt_or_ge i d.chg.length with hl | hl
  ·simp only [Dk.put] at hj ⊢
   rw [isC_set _ _ _ hl] at hj
   split at hj
   ·cases hj
   ·rename_i hne
    rw [List.getElem?_set_ne hne]; exact h.same j hj
  ·simp only [Dk.put] at hj ⊢
   rw [List.set_eq_of_length_le hl] at hj
   rw [List.set_eq_of_length_le (by rw [← h.lc]; exact hl)]
   exact h.same j hj
 ar := h.ar
theorem chunks_64 {k : Nat} {s : Bs} (h : 64 * k ≤ s.length) : ∀ x ∈ chunks k s, x.length = 64 := by
 induction k generalizing s with
 | zero => intro x hx; cases hx
 | succ k ih =>
  intro x hx
  rcases List.mem_cons.1 hx with rfl | hx
  ·rw [List.length_take]; omega
  ·exact ih (by rw [List.length_drop]; omega) x hx
theorem Wf.wr {d : Dk} (h : d.Wf) (i : Nat) {l : List Bs} (hl : ∀ x ∈ l, x.length = 64) : (d.wr i l).1.Wf := by
 induction l generalizing d i with
 | nil => exact h
 | cons x l ih =>
  rw [Dk.wr]
  have h1 : (d.put i x).tick.Wf := (h.put i (hl x (by simp))).tick
  cases hg : (d.put i x).tick.gone with
  | true => simp only [hg, cond_true]; exact h1
  | false => simp only [hg, cond_false]; exact ih h1 (i + 1) (fun y hy => hl y (by simp [hy]))
theorem Wf.write {d : Dk} (h : d.Wf) (a : Int) (s : Bs) : (d.write a s).1.Wf := by
 unfold Dk.write
 cases d.gone with
 | true => exact h
 | false =>
  simp only [cond_false]
  cases hc : decide (s.length % 64 ≠ 0) || !(d.has a (s.length / 64 : Nat)) with
  | true => exact h
  | false => simp only [cond_false]; exact h.wr _ (chunks_64 (by omega))
theorem Wf.sync {d : Dk} (h : d.Wf) : d.sync.1.Wf := by
 unfold Dk.sync
 cases d.gone with
 | true => exact h
 | false =>
  simp only [cond_false]
  have h1 := h.tick
  cases hg : d.tick.gone with
  | true => exact h1
  | false =>
   simp only [cond_false]
   exact ⟨h1.n1, rfl, by simp, h1.s1, h1.s1, fun i _ => rfl, h1.ar⟩
theorem Wf.arm {d : Dk} (h : d.Wf) {a : Int} (ha : a ≤ 9223372036854775807) : (d.arm a).1.Wf := by
 unfold Dk.arm
 cases d.gone with
 | true => exact h
 | false =>
  simp only [cond_false]
  by_cases hn : a < 0
  ·simp only [hn, decide_true, cond_true]; exact h
  ·simp only [hn, decide_false, cond_false]
   exact ⟨h.n1, h.lo, h.lc, h.s1, h.s2, h.same, ⟨by simp only; omega, ha⟩⟩
theorem kept_le (f : Int) : kept f ≤ 64 := by
 unfold kept
 split
 ·omega
 ·split
  ·omega
  ·have := Int.emod_lt_of_pos (f / 3) (show (0 : Int) < 65 by decide)
   have := Int.emod_nonneg (f / 3) (show (65 : Int) ≠ 0 by decide)
   omega
theorem mU {f : Int} {x y : Bs} (hx : x.length = 64) (hy : y.length = 64) : (torn f x y).length = 64 := by
 have := kept_le f
 simp only [torn, List.length_append, List.length_take, List.length_drop]; omega
theorem Wf.cur64 {d : Dk} (h : d.Wf) {i : Nat} (hi : i < d.cur.length) : (d.cur.getD i []).length = 64 := by
 rw [List.getD_eq_getElem?_getD, List.getElem?_eq_getElem hi]; exact h.s1 _ (List.getElem_mem hi)
theorem Wf.old64 {d : Dk} (h : d.Wf) {i : Nat} (hi : i < d.cur.length) : (d.old.getD i []).length = 64 := by
 rw [List.getD_eq_getElem?_getD, List.getElem?_eq_getElem (by rw [h.lo]; exact hi)]; exact h.s2 _ (List.getElem_mem _)
theorem mZ {d : Dk} (h : d.Wf) (how : List Int) {i : Nat} (hi : i < d.cur.length) : (mend how d i).length = 64 := by
 unfold mend
 cases isC d.chg i with
 | true => exact mU (h.cur64 hi) (h.old64 hi)
 | false => exact h.cur64 hi
theorem mended_len (how : List Int) (d : Dk) : (mended how d).length = d.cur.length := by simp [mended]
theorem jw (how : List Int) (d : Dk) (i : Nat) : (mended how d)[i]? = if i < d.cur.length then some (mend how d i) else none := by
 unfold mended
 rw [List.getElem?_map]
 split
 ·rename_i h; rw [List.getElem?_range h]; rfl
 ·rename_i h; rw [List.getElem?_eq_none (by simpa using h)]; rfl
theorem Wf.crash {d : Dk} (h : d.Wf) (how : List Int) : (d.crash how).Wf where
 n1 := by simpa [Dk.crash, mended_len] using h.n1
 lo := rfl
 lc := by simp [Dk.crash, mended_len]
 s1 := by
  intro x hx
  obtain ⟨i, hi, rfl⟩ := List.mem_map.1 hx
  exact mZ h how (by simpa using hi)
 s2 := by
  intro x hx
  obtain ⟨i, hi, rfl⟩ := List.mem_map.1 hx
  exact mZ h how (by simpa using hi)
 same := fun i _ => rfl
 ar := ⟨by simp [Dk.crash], by simp [Dk.crash]⟩
theorem has_one {d : Dk} {k : Nat} (hk : k < d.cur.length) : d.has (k : Int) 1 = true := by unfold has; simp; omega
theorem wr_one {d : Dk} {k : Nat} (hk : k < d.cur.length) {s : Bs} (hs : s.length = 64) (hg : d.gone = false) : d.write k s = ((d.put k s).tick, bif (d.put k s).tick.gone then 5 else 0) := by
 have hs2 : s.take 64 = s := List.take_of_length_le (by omega)
 unfold write
 rw [hg, hs]
 simp only [cond_false, show ((64 / 64 : Nat) : Int) = 1 from rfl, has_one hk, Int.toNat_natCast, show 64 / 64 = 1 from rfl, chunks, hs2, wr]
 cases (d.put k s).tick.gone <;> rfl
theorem sync_calm {d : Dk} (ha : d.armed = 0) (hg : d.gone = false) : d.sync.2 = 0 ∧ d.sync.1.cur = d.cur ∧ d.sync.1.old = d.cur ∧ d.sync.1.gone = false ∧ d.sync.1.armed = 0 := by
 have ht : d.tick = { d with done := IntKind.i64.wrap (d.done + 1) } := by unfold tick; rw [if_neg (by omega)]
 unfold sync
 rw [hg]
 simp only [cond_false, ht]
 rw [show ({ d with done := IntKind.i64.wrap (d.done + 1) } : Dk).gone = false from hg]
 exact ⟨rfl, rfl, rfl, rfl, ha⟩
theorem rank_succ (c : List Bool) (i : Nat) : rank c (i + 1) = rank c i + if isC c i then 1 else 0 := by
 unfold rank
 rw [List.range_succ, List.filter_append, List.length_append]
 congr 1
 rw [List.filter_cons]
 split <;> simp
theorem gF (c : List Bool) : ∀ (n k i : Nat), ((List.range n).filter (isC c))[k]? = some i ↔ i < n ∧ isC c i = true ∧ rank c i = k
 | 0, k, i => by simp
 | n + 1, k, i => by
  rw [List.range_succ, List.filter_append, List.getElem?_append]
  have ih := gF c n
  have hl : ((List.range n).filter (isC c)).length = rank c n := rfl
  by_cases hk : k < ((List.range n).filter (isC c)).length
  ·rw [if_pos hk, ih]
   constructor
   ·rintro ⟨h1, h2, h3⟩; exact ⟨by omega, h2, h3⟩
   ·rintro ⟨h1, h2, h3⟩
    refine ⟨?_, h2, h3⟩
    have : i ≠ n := by rintro rfl; rw [hl, h3] at hk; omega
    omega
  ·rw [if_neg hk]
   rw [hl] at hk ⊢
   constructor
   ·intro h
    rw [List.filter_cons] at h
    split at h
    ·rename_i hn
     rw [List.filter_nil] at h
     cases hd : k - rank c n with
     | zero => rw [hd] at h; simp at h; subst h; exact ⟨by omega, hn, by omega⟩
     | succ _ => rw [hd] at h; simp at h
    ·simp at h
   ·rintro ⟨h1, h2, h3⟩
    have : i = n := by
     rcases Nat.lt_or_ge i n with hlt | hge
     ·have h4 := (ih (rank c i) i).2 ⟨hlt, h2, rfl⟩
      have := (List.getElem?_eq_some_iff.1 h4).1
      rw [hl] at this; omega
     ·omega
    subst this
    rw [List.filter_cons, if_pos h2, h3, Nat.sub_self]; rfl
theorem pend_mem {d : Dk} (h : d.Wf) {i : Nat} : i ∈ d.pend ↔ isC d.chg i = true := by
 unfold pend
 rw [List.mem_filter, List.mem_range]
 exact ⟨fun x => x.2, fun x => ⟨by rw [← h.lc]; exact isC_lt x, x⟩⟩
theorem pend_rises (d : Dk) : d.pend.Pairwise (· < ·) := by
 unfold pend
 exact (List.pairwise_lt_range).filter _
theorem pend_len (d : Dk) : d.pend.length ≤ d.cur.length := by
 unfold pend
 exact Nat.le_trans (List.length_filter_le _ _) (by simp)
def iM (how : List Int) (d : Dk) (k i : Nat) : Bs := bif isC d.chg i && decide (rank d.chg i < k) then torn (fate how (rank d.chg i)) (d.cur.getD i []) (d.old.getD i []) else d.cur.getD i []
def mid (how : List Int) (d : Dk) (k : Nat) : Dk := { d with cur := (List.range d.cur.length).map (iM how d k) }
theorem mid_len (how : List Int) (d : Dk) (k : Nat) : (mid how d k).cur.length = d.cur.length := by simp [mid]
theorem fX (how : List Int) (d : Dk) (k i : Nat) : (mid how d k).cur[i]? = if i < d.cur.length then some (iM how d k i) else none := by
 unfold mid
 simp only [List.getElem?_map]
 split
 ·rename_i h; rw [List.getElem?_range h]; rfl
 ·rename_i h; rw [List.getElem?_eq_none (by simpa using h)]; rfl
theorem oQ {d : Dk} (h : d.Wf) (how : List Int) (k : Nat) {i : Nat} (hi : i < d.cur.length) : (iM how d k i).length = 64 := by
 unfold iM
 cases isC d.chg i && decide (rank d.chg i < k) with
 | true => exact mU (h.cur64 hi) (h.old64 hi)
 | false => exact h.cur64 hi
theorem Wf.mid {d : Dk} (h : d.Wf) (how : List Int) (k : Nat) : (mid how d k).Wf where
 n1 := by rw [mid_len]; exact h.n1
 lo := by rw [mid_len]; exact h.lo
 lc := by rw [mid_len]; exact h.lc
 s1 := by
  intro x hx
  obtain ⟨i, hi, rfl⟩ := List.mem_map.1 hx
  exact oQ h how k (by simpa using hi)
 s2 := h.s2
 same := by
  intro i hi
  rw [fX]
  have hi' : isC d.chg i = false := hi
  show d.old[i]? = _
  rw [h.same i hi']
  split
  ·rename_i hl
   rw [iM, hi', Bool.false_and, cond_false, List.getD_eq_getElem?_getD, List.getElem?_eq_getElem hl]; rfl
  ·rename_i hl; rw [List.getElem?_eq_none (by omega)]
 ar := h.ar
theorem getD_eq {α : Type} {l : List α} {i : Nat} {x : α} (h : i < l.length) : l[i]? = some (l.getD i x) := by
 rw [List.getD_eq_getElem?_getD, List.getElem?_eq_getElem h]; rfl
theorem mid_zero (how : List Int) (d : Dk) : mid how d 0 = d := by
 have : (mid how d 0).cur = d.cur := by
  apply List.ext_getElem?
  intro i
  rw [fX]
  split
  ·rename_i h
   rw [iM, decide_eq_false (Nat.not_lt_zero _), Bool.and_false, cond_false]; exact (getD_eq h).symm
  ·rename_i h; rw [List.getElem?_eq_none (by omega)]
 unfold mid at this ⊢
 simp only at this
 rw [this]
theorem mid_end (how : List Int) (d : Dk) : (mid how d d.pend.length).cur = mended how d := by
 apply List.ext_getElem?
 intro i
 rw [fX, jw]
 split
 ·rename_i h
  congr 1
  unfold iM mend
  cases hc : isC d.chg i with
  | false => rfl
  | true =>
   have : (d.pend)[rank d.chg i]? = some i := (gF d.chg _ _ _).2 ⟨h, hc, rfl⟩
   have := (List.getElem?_eq_some_iff.1 this).1
   rw [decide_eq_true this, Bool.and_true]
 ·rfl
theorem mid_step {how : List Int} {d : Dk} {k i : Nat} (h : d.pend[k]? = some i) : i < d.cur.length ∧ (mid how d k).cur.getD i [] = d.cur.getD i [] ∧ isC d.chg i = true ∧
  (mid how d (k + 1)).cur = (mid how d k).cur.set i (torn (fate how k) (d.cur.getD i []) (d.old.getD i [])) := by
 obtain ⟨h1, h2, h3⟩ := (gF d.chg _ _ _).1 h
 refine ⟨h1, ?_, h2, ?_⟩
 ·rw [List.getD_eq_getElem?_getD, fX, if_pos h1, Option.getD_some, iM, decide_eq_false (by omega), Bool.and_false]; rfl
 ·apply List.ext_getElem?
  intro j
  rw [fX, List.getElem?_set, fX]
  by_cases hj : j < d.cur.length
  ·rw [if_pos hj, if_pos hj]
   by_cases e : i = j
   ·subst e
    rw [if_pos rfl, if_pos (by rw [mid_len]; exact h1), iM, h2, h3, decide_eq_true (by omega)]; rfl
   ·rw [if_neg e]
    congr 1
    unfold iM
    cases hc : isC d.chg j with
    | false => rfl
    | true =>
     have hne : rank d.chg j ≠ k := by
      intro e2
      have := (gF d.chg _ _ _).2 ⟨hj, hc, e2⟩
      rw [show (List.range d.cur.length).filter (isC d.chg) = d.pend from rfl, h] at this
      exact e (by simpa using this)
     have : decide (rank d.chg j < k + 1) = decide (rank d.chg j < k) := by
      rw [decide_eq_decide]; omega
     rw [this]
  ·rw [if_neg hj, if_neg hj]
   split
   ·rename_i e; subst e; rw [if_neg (by rw [mid_len]; exact hj)]
   ·rfl
theorem pO {f : Int} (h : -9223372036854775808 ≤ f ∧ f ≤ 9223372036854775807) : 0 ≤ fold1 f ∧ fold1 f ≤ 9223372036854775807 := by
 unfold fold1; split <;> omega
theorem fate_pos {how : List Int} (h : ∀ f ∈ how, -9223372036854775808 ≤ f ∧ f ≤ 9223372036854775807) (k : Nat) : 0 ≤ fate how k ∧ fate how k ≤ 9223372036854775807 := by
 unfold fate
 split
 ·rename_i f hf; exact pO (h f (List.mem_of_getElem? hf))
 ·omega
def rmid (how : List Int) (d : Dk) (i : Nat) : Dk := { d with cur := (mended how d).take i ++ d.cur.drop i, old := (mended how d).take i ++ d.old.drop i, chg := List.replicate i false ++ d.chg.drop i }
theorem rmid_zero (how : List Int) (d : Dk) : rmid how d 0 = d := by simp [rmid]
theorem rmid_end (how : List Int) {d : Dk} (h : d.Wf) : rmid how d d.cur.length = { d.crash how with armed := d.armed, gone := d.gone } := by
 have e1 : (mended how d).take d.cur.length = mended how d := List.take_of_length_le (by rw [mended_len]; omega)
 simp only [rmid, crash, e1, List.drop_length, List.append_nil]
 rw [List.drop_eq_nil_of_le (by rw [h.lo]; omega), List.drop_eq_nil_of_le (by rw [h.lc]; omega), List.append_nil, List.append_nil]
theorem gL {α : Type} {a c : List α} {i : Nat} {x : α} (ha : a.length = i) (hc : c ≠ []) : (a ++ c).set i x = a ++ [x] ++ c.drop 1 := by
 rw [List.set_append_right _ _ (by omega), ha, Nat.sub_self]
 cases c with
 | nil => exact absurd rfl hc
 | cons y c => simp
theorem take_mid {α : Type} {l : List α} {i : Nat} {x : α} (h : l[i]? = some x) : l.take (i + 1) = l.take i ++ [x] := by rw [List.take_add_one, h]; rfl
theorem rmid_len (how : List Int) {d : Dk} (h : d.Wf) {i : Nat} (hi : i ≤ d.cur.length) : (rmid how d i).cur.length = d.cur.length ∧ (rmid how d i).old.length = d.cur.length ∧ (rmid how d i).chg.length = d.cur.length := by
 have h1 := mended_len how d
 have h2 := h.lo
 have h3 := h.lc
 refine ⟨?_, ?_, ?_⟩
 ·show ((mended how d).take i ++ d.cur.drop i).length = _
  simp; omega
 ·show ((mended how d).take i ++ d.old.drop i).length = _
  simp; omega
 ·show (List.replicate i false ++ d.chg.drop i).length = _
  simp; omega
theorem rmid_at (how : List Int) {d : Dk} (h : d.Wf) {i : Nat} (hi : i < d.cur.length) : (rmid how d i).cur[i]? = some (d.cur.getD i []) ∧ (rmid how d i).old[i]? = some (d.old.getD i []) ∧ (rmid how d i).chg[i]? = some (isC d.chg i) := by
 have h1 := mended_len how d
 have ht : ((mended how d).take i).length = i := by rw [List.length_take]; omega
 refine ⟨?_, ?_, ?_⟩
 ·show ((mended how d).take i ++ d.cur.drop i)[i]? = _
  rw [List.getElem?_append_right (by omega), ht, Nat.sub_self, List.getElem?_drop, Nat.add_zero]; exact getD_eq hi
 ·show ((mended how d).take i ++ d.old.drop i)[i]? = _
  rw [List.getElem?_append_right (by omega), ht, Nat.sub_self, List.getElem?_drop, Nat.add_zero]; exact getD_eq (by rw [h.lo]; exact hi)
 ·show (List.replicate i false ++ d.chg.drop i)[i]? = _
  rw [List.getElem?_append_right (by simp), List.length_replicate, Nat.sub_self, List.getElem?_drop, Nat.add_zero]; exact getD_eq (by rw [h.lc]; exact hi)
theorem rmid_step (how : List Int) {d : Dk} (h : d.Wf) {i : Nat} (hi : i < d.cur.length) :
  rmid how d (i + 1) = { rmid how d i with cur := (rmid how d i).cur.set i (mend how d i), old := (rmid how d i).old.set i (mend how d i), chg := (rmid how d i).chg.set i false } := by
 have h1 := mended_len how d
 have ht : ((mended how d).take i).length = i := by rw [List.length_take]; omega
 have hm : (mended how d)[i]? = some (mend how d i) := by rw [jw, if_pos hi]
 unfold rmid
 simp only
 rw [take_mid hm, gL ht (by intro e; have := congrArg List.length e; simp at this; omega), gL ht (by intro e; have e' := congrArg List.length e; have := h.lo; simp at e'; omega),
  gL (by simp) (by intro e; have e' := congrArg List.length e; have := h.lc; simp at e'; omega), List.drop_drop, List.drop_drop, List.drop_drop, List.replicate_succ']
theorem rmid_skip (how : List Int) {d : Dk} (h : d.Wf) {i : Nat} (hi : i < d.cur.length) (hc : isC d.chg i = false) : rmid how d (i + 1) = rmid how d i := by
 obtain ⟨a1, a2, a3⟩ := rmid_at how h hi
 have hm : mend how d i = d.cur.getD i [] := by unfold mend; rw [hc]; rfl
 have ho : d.old.getD i [] = d.cur.getD i [] := by
  have := h.same i hc
  rw [List.getD_eq_getElem?_getD, this, ← List.getD_eq_getElem?_getD]
 rw [rmid_step how h hi, hm]
 rw [hc] at a3
 have s1 : (rmid how d i).cur.set i (d.cur.getD i []) = (rmid how d i).cur := by
  apply List.ext_getElem?; intro j; rw [List.getElem?_set]; split
  ·rename_i e; subst e; rw [a1, if_pos (List.getElem?_eq_some_iff.1 a1).1]
  ·rfl
 have s2 : (rmid how d i).old.set i (d.cur.getD i []) = (rmid how d i).old := by
  apply List.ext_getElem?; intro j; rw [List.getElem?_set]; split
  ·rename_i e; subst e; rw [a2, if_pos (List.getElem?_eq_some_iff.1 a2).1, ho]
  ·rfl
 have s3 : (rmid how d i).chg.set i false = (rmid how d i).chg := by
  apply List.ext_getElem?; intro j; rw [List.getElem?_set]; split
  ·rename_i e; subst e; rw [a3, if_pos (List.getElem?_eq_some_iff.1 a3).1]
  ·rfl
 rw [s1, s2, s3]
def smid (d : Dk) (i : Nat) : Dk := { d with old := d.cur.take i ++ d.old.drop i, chg := List.replicate i false ++ d.chg.drop i }
theorem smid_zero (d : Dk) : smid d 0 = d := by simp [smid]
theorem smid_end {d : Dk} (h : d.Wf) : smid d d.cur.length = { d with old := d.cur, chg := List.replicate d.cur.length false } := by
 simp only [smid, List.take_length]
 rw [List.drop_eq_nil_of_le (by rw [h.lo]; omega), List.drop_eq_nil_of_le (by rw [h.lc]; omega), List.append_nil, List.append_nil]
theorem smid_step {d : Dk} (h : d.Wf) {i : Nat} (hi : i < d.cur.length) : smid d (i + 1) = { smid d i with old := (smid d i).old.set i (d.cur.getD i []), chg := (smid d i).chg.set i false } := by
 unfold smid
 simp only
 rw [take_mid (getD_eq (x := []) hi), gL (by rw [List.length_take]; omega) (by intro e; have e' := congrArg List.length e; have := h.lo; simp at e'; omega),
  gL (by simp) (by intro e; have e' := congrArg List.length e; have := h.lc; simp at e'; omega), List.drop_drop, List.drop_drop, List.replicate_succ']
theorem smid_len {d : Dk} (h : d.Wf) {i : Nat} (hi : i ≤ d.cur.length) : (smid d i).old.length = d.cur.length ∧ (smid d i).chg.length = d.cur.length := by
 have h2 := h.lo
 have h3 := h.lc
 refine ⟨?_, ?_⟩
 ·show (d.cur.take i ++ d.old.drop i).length = _
  simp; omega
 ·show (List.replicate i false ++ d.chg.drop i).length = _
  simp; omega
theorem rising_eq {a b : List Int} (ha : a.Pairwise (· < ·)) (hb : b.Pairwise (· < ·)) (h : ∀ x, x ∈ a ↔ x ∈ b) : a = b := by
 induction a generalizing b with
 | nil =>
  cases b with
  | nil => rfl
  | cons y b => exact absurd ((h y).2 (by simp)) (by simp)
 | cons x a ih =>
  cases b with
  | nil => exact absurd ((h x).1 (by simp)) (by simp)
  | cons y b =>
   rw [List.pairwise_cons] at ha hb
   have hxy : x = y := by
    rcases List.mem_cons.1 ((h x).1 (by simp)) with e | hx
    ·exact e
    ·rcases List.mem_cons.1 ((h y).2 (by simp)) with e | hy
     ·exact e.symm
     ·have := ha.1 y hy; have := hb.1 x hx; omega
   subst hxy
   congr 1
   refine ih ha.2 hb.2 fun z => ?_
   constructor
   ·intro hz
    rcases List.mem_cons.1 ((h z).1 (by simp [hz])) with e | hz'
    ·have := ha.1 z hz; omega
    ·exact hz'
   ·intro hz
    rcases List.mem_cons.1 ((h z).2 (by simp [hz])) with e | hz'
    ·have := hb.1 z hz; omega
    ·exact hz'
theorem flat_len {l : List Bs} (h : ∀ x ∈ l, x.length = 64) : l.flatten.length = 64 * l.length := by
 induction l with
 | nil => rfl
 | cons x l ih => simp only [List.flatten_cons, List.length_append, List.length_cons, h x (by simp), ih (fun y hy => h y (by simp [hy]))]; omega
theorem flat_drop {l : List Bs} (h : ∀ x ∈ l, x.length = 64) (i : Nat) : l.flatten.drop (64 * i) = (l.drop i).flatten := by
 induction l generalizing i with
 | nil => simp
 | cons x l ih =>
  cases i with
  | zero => rfl
  | succ i =>
   rw [List.flatten_cons, List.drop_succ_cons, ← ih (fun y hy => h y (by simp [hy])) i, List.drop_append, h x (by simp), show 64 * (i + 1) - 64 = 64 * i by omega,
    List.drop_eq_nil_of_le (by rw [h x (by simp)]; omega), List.nil_append]
theorem flat_take {l : List Bs} (h : ∀ x ∈ l, x.length = 64) (i : Nat) : l.flatten.take (64 * i) = (l.take i).flatten := by
 induction l generalizing i with
 | nil => simp
 | cons x l ih =>
  cases i with
  | zero => rfl
  | succ i =>
   rw [List.flatten_cons, List.take_succ_cons, List.flatten_cons, ← ih (fun y hy => h y (by simp [hy])) i, List.take_append, h x (by simp), show 64 * (i + 1) - 64 = 64 * i by omega,
    List.take_of_length_le (by rw [h x (by simp)]; omega)]
theorem flat_sec {l : List Bs} (h : ∀ x ∈ l, x.length = 64) {i : Nat} (hi : i < l.length) : (l.flatten.drop (64 * i)).take 64 = l.getD i [] := by
 rw [flat_drop h, List.getD_eq_getElem?_getD, List.getElem?_eq_getElem hi, List.drop_eq_getElem_cons hi, List.flatten_cons, Option.getD_some]
 rw [List.take_append_of_le_length (by rw [h _ (List.getElem_mem hi)]; omega), List.take_of_length_le (by rw [h _ (List.getElem_mem hi)]; omega)]
theorem flat_lay {l : List Bs} (h : ∀ x ∈ l, x.length = 64) {i j : Nat} (hi : i < l.length) (hj : j ≤ 64) {y : Bs} (hy : y.length = 64 - j) :
  l.flatten.take (64 * i + j) ++ y ++ l.flatten.drop (64 * i + 64) = (l.set i ((l.getD i []).take j ++ y)).flatten := by
 induction l generalizing i with
 | nil => simp at hi
 | cons x l ih =>
  have hx := h x (by simp)
  cases i with
  | zero =>
   simp only [List.flatten_cons, List.set_cons_zero, List.getD_cons_zero, Nat.mul_zero, Nat.zero_add]
   rw [List.take_append_of_le_length (by omega), List.drop_append, hx, Nat.sub_self, List.drop_eq_nil_of_le (by omega), List.nil_append, List.drop_zero]
  | succ i =>
   simp only [List.flatten_cons, List.set_cons_succ, List.getD_cons_succ]
   rw [← ih (fun y hy => h y (by simp [hy])) (by simpa using hi), List.take_append, List.drop_append, hx]
   rw [List.take_of_length_le (show x.length ≤ 64 * (i + 1) + j by omega), List.drop_eq_nil_of_le (show x.length ≤ 64 * (i + 1) + 64 by omega), List.nil_append,
    show 64 * (i + 1) + j - 64 = 64 * i + j by omega, show 64 * (i + 1) + 64 - 64 = 64 * i + 64 by omega]
   simp only [List.append_assoc]
end Dk
end Go.Al
namespace Go.Proofs.YthbngnlmgplijaaGreatDoor
open Go.Al Go.Proofs
def T192 (k : KV) (n0 width1 : Value) (w : World) : Prop :=
 Pu (aa (.int .i64) .lss width1 (.int .i64 1)) fun t1 =>
 Gd (isB false t1) (fun kk => kk width1 w) w fun t2 w3 =>
 Gd (isB false t1) (fun kk => Pu (aa (.int .i64) .gtr t2 (.int .i64 8)) fun vv => kk vv w3) w3 fun t4 w5 =>
 Pu (ak t1 (.bool true) t4) fun t6 =>
 Gd (isB false t6) (fun kk => kk n0 w5) w5 fun t7 w8 =>
 Gd (isB false t6) (fun kk => Pu (aa (.int .i64) .lss t7 (.int .i64 0)) fun vv => kk vv w8) w8 fun t9 w10 =>
 Pu (ak t6 (.bool true) t9) fun t11 =>
 IfB t11
 (k (.string (.mk #[])) w10)
 (RunS prog (Instr.makeSlice 123 width1 width1) w10 fun t12 w13 =>
 Pu (aa (.int .i64) .sub width1 (.int .i64 1)) fun t14 =>
 ∃ (I15 : List Value → World → Prop) (m16 : List Value → World → Nat), I15 [n0, t14] w13 ∧
 ∀ (g33 : Fr) (w32 : World), ∀ n18 : Value, ∀ i19 : Value, I15 [n18, i19] w32 →
 (Pu (aa (.int .i64) .geq i19 (.int .i64 0)) fun t34 =>
 IfB t34
 (Pu (aa (.int .i64) .rem n18 (.int .i64 256)) fun t35 =>
 Pu (cvI IntKind.u8 t35) fun t36 =>
 Pu (ixV 1 t12 i19) fun t37 =>
 St 1 w32 t37 t36 fun u38 w39 =>
 Pu (aa (.int .i64) .quo n18 (.int .i64 256)) fun t40 =>
 Pu (aa (.int .i64) .sub i19 (.int .i64 1)) fun t41 =>
 I15 [t40, t41] w39 ∧ m16 [t40, t41] w39 < m16 [n18, i19] w32)
 (RunS prog (convert 123 9 t12) w32 fun t42 w43 =>
 k t42 w43)))
theorem c192 {k : KV} {n0 width1 : Value} {w : World} (h : T192 k n0 width1 w) : Cl prog 192 [n0, width1] w k :=
 cE ac mixed (fun j => bif Nat.beq j 5 then [0, 6] else []) J0 Tryz.func192 (by kernel_rfl) (by kernel_rfl) (by kernel_rfl) h
def T83 (k : KV) (data0 : Value) (w : World) : Prop :=
 ∃ (I1 : List Value → World → Prop) (m2 : List Value → World → Nat), I1 [(.int .i64 0), (.int .i64 0)] w ∧
 ∀ (g21 : Fr) (w20 : World), ∀ n4 : Value, ∀ i5 : Value, I1 [n4, i5] w20 →
 (Pu (bu data0) fun t22 =>
 Pu (aa (.int .i64) .lss i5 t22) fun t23 =>
 IfB t23
 (Pu (aa (.int .i64) .rem n4 (.int .i64 36028797018963968)) fun t24 =>
 Pu (aa (.int .i64) .mul t24 (.int .i64 256)) fun t25 =>
 Pu (ixS data0 i5) fun t26 =>
 Pu (cvI IntKind.i64 t26) fun t27 =>
 Pu (aa (.int .i64) .add t25 t27) fun t28 =>
 Pu (aa (.int .i64) .add i5 (.int .i64 1)) fun t29 =>
 I1 [t28, t29] w20 ∧ m2 [t28, t29] w20 < m2 [n4, i5] w20)
 (k n4 w20))
theorem c83 {k : KV} {data0 : Value} {w : World} (h : T83 k data0 w) : Cl prog 83 [data0] w k :=
 cE ac mixed (fun j => bif Nat.beq j 3 then [3, 4] else []) J0 Tryz.func83 (by kernel_rfl) (by kernel_rfl) (by kernel_rfl) h
def T84 (k : KV) (data0 : Value) (w : World) : Prop :=
 ∃ (I1 : List Value → World → Prop) (m2 : List Value → World → Nat), I1 [(Value.int .u32 4294967295), (.int .i64 0)] w ∧
 ∀ (g33 : Fr) (w32 : World), ∀ c4 : Value, ∀ i5 : Value, I1 [c4, i5] w32 →
 (Pu (bu data0) fun t34 =>
 Pu (aa (.int .i64) .lss i5 t34) fun t35 =>
 IfB t35
 (Pu (ixS data0 i5) fun t36 =>
 Pu (cvI IntKind.u32 t36) fun t37 =>
 Pu (aa (TypeDesc.int .u32) .xor c4 t37) fun t38 =>
 ∃ (I39 : List Value → World → Prop) (m40 : List Value → World → Nat), I39 [t38, (.int .i64 0)] w32 ∧
 ∀ (g58 : Fr) (w57 : World), ∀ c42 : Value, ∀ kv43 : Value, I39 [c42, kv43] w57 →
 (Pu (aa (.int .i64) .lss kv43 (.int .i64 8)) fun t59 =>
 IfB t59
 (Jn (fun vs72 w71 => ∀ g73 : Fr, ∃ c61 : Value, vs72 = [c61] ∧
 (Pu (aa (.int .i64) .add kv43 (.int .i64 1)) fun t74 =>
 I39 [c61, t74] w71 ∧ m40 [c61, t74] w71 < m40 [c42, kv43] w57))
 (fun jj60 =>
 Pu (aa (TypeDesc.int .u32) .rem c42 (Value.int .u32 2)) fun t75 =>
 Pu (aa (TypeDesc.int .u32) .eql t75 (Value.int .u32 1)) fun t76 =>
 Pu (aa (TypeDesc.int .u32) .quo c42 (Value.int .u32 2)) fun t77 =>
 IfB t76
 (Pu (aa (TypeDesc.int .u32) .xor t77 (Value.int .u32 3988292384)) fun t78 =>
 jj60 [t78] w57)
 (jj60 [t77] w57)))
 (Pu (aa (.int .i64) .add i5 (.int .i64 1)) fun t79 =>
 I1 [c42, t79] w57 ∧ m2 [c42, t79] w57 < m2 [c4, i5] w32)))
 (Pu (aa (TypeDesc.int .u32) .xor c4 (Value.int .u32 4294967295)) fun t80 =>
 k t80 w32))
theorem c84 {k : KV} {data0 : Value} {w : World} (h : T84 k data0 w) : Cl prog 84 [data0] w k :=
 cE ac mixed (fun j => bif Nat.beq j 7 then [3, 5] else bif Nat.beq j 3 then [3, 4] else []) (fun j => bif Nat.beq j 8 then some [3] else none) Tryz.func84 (by kernel_rfl) (by kernel_rfl) (by kernel_rfl) h
def T127 (k : KV) (data0 : Value) (w : World) : Prop :=
 New #[(.int .i64 0), (.int .i64 0), (.int .i64 0), (.int .i64 0), (.string (.mk #[])), (.slice none 0 0)] 61 w fun t1 w2 =>
 Pu (bu data0) fun t3 =>
 Pu (aa (.int .i64) .neq t3 (.int .i64 512)) fun t4 =>
 IfB t4
 (RunS prog (Instr.build 61 #[]) w2 fun t5 w6 =>
 St 6 w6 t1 t5 fun u7 w8 =>
 bU (bF prog (fun j => bif Nat.beq j 2 then t1 else bif Nat.beq j 3 then (.int .i64 31) else undef) w8 [(ResultVar.cell 2 61), (ResultVar.tmp 3)]) w8 k)
 (Pu (slS data0 none (some (.int .i64 4))) fun t9 =>
 Pu (slS data0 (some (.int .i64 4)) none) fun t10 =>
 Cl prog 83 [t9] (World.drew w2) fun t11 w12 =>
 Cl prog 84 [t10] w12 fun t13 w14 =>
 Pu (cvI IntKind.i64 t13) fun t15 =>
 Pu (aa (.int .i64) .neq t11 t15) fun t16 =>
 IfB t16
 (RunS prog (Instr.build 61 #[]) w14 fun t17 w18 =>
 St 6 w18 t1 t17 fun u19 w20 =>
 bU (bF prog (fun j => bif Nat.beq j 2 then t1 else bif Nat.beq j 3 then (.int .i64 30) else undef) w20 [(ResultVar.cell 2 61), (ResultVar.tmp 3)]) w20 k)
 (Jn (fun vs37 w36 => ∀ g38 : Fr, ∃ p22 : Value, vs37 = [p22] ∧
 (Pu (ixS data0 (.int .i64 18)) fun t39 =>
 Pu (cvI IntKind.i64 t39) fun t40 =>
 Pu (ixS data0 (.int .i64 19)) fun t41 =>
 Pu (cvI IntKind.i64 t41) fun t42 =>
 Pu (aa (.int .i64) .add (.int .i64 20) t42) fun t43 =>
 Pu (slS data0 (some (.int .i64 20)) (some t43)) fun t44 =>
 Pu (faV 4 p22) fun t45 =>
 St 1 w36 t45 t44 fun u46 w47 =>
 ∃ (I48 : List Value → World → Prop) (m49 : List Value → World → Nat), I48 [t43, (.int .i64 0)] w47 ∧
 ∀ (g94 : Fr) (w93 : World), ∀ atv52 : Value, ∀ i53 : Value, I48 [atv52, i53] w93 →
 (Pu (aa (.int .i64) .lss i53 t40) fun t95 =>
 IfB t95
 (Pu (aa (.int .i64) .add atv52 (.int .i64 2)) fun t96 =>
 Pu (aa (.int .i64) .gtr t96 (.int .i64 512)) fun t97 =>
 IfB t97
 (RunS prog (Instr.build 61 #[]) w93 fun t98 w99 =>
 St 6 w99 t1 t98 fun u100 w101 =>
 bU (bF prog (fun j => bif Nat.beq j 2 then t1 else bif Nat.beq j 3 then (.int .i64 31) else undef) w101 [(ResultVar.cell 2 61), (ResultVar.tmp 3)]) w101 k)
 (Pu (aa (.int .i64) .add atv52 (.int .i64 2)) fun t102 =>
 Pu (slS data0 (some atv52) (some t102)) fun t103 =>
 Cl prog 83 [t103] w93 fun t104 w105 =>
 Pu (aa (.int .i64) .add atv52 (.int .i64 2)) fun t106 =>
 Pu (aa (.int .i64) .add t106 t104) fun t107 =>
 Pu (aa (.int .i64) .gtr t107 (.int .i64 512)) fun t108 =>
 IfB t108
 (RunS prog (Instr.build 61 #[]) w105 fun t109 w110 =>
 St 6 w110 t1 t109 fun u111 w112 =>
 bU (bF prog (fun j => bif Nat.beq j 2 then t1 else bif Nat.beq j 3 then (.int .i64 31) else undef) w112 [(ResultVar.cell 2 61), (ResultVar.tmp 3)]) w112 k)
 (∃ C113 : World → Prop, C113 (World.drew w105) ∧
 (Pu (faV 5 p22) fun t114 =>
 ∃ t115, (∀ w116, C113 w116 → Ld w116 t114 fun t117 w118 =>
 t117 = t115 ∧ w118 = w116) ∧
 (Pu (aa (.int .i64) .add atv52 (.int .i64 2)) fun t119 =>
 Pu (aa (.int .i64) .add atv52 (.int .i64 2)) fun t120 =>
 Pu (aa (.int .i64) .add t120 t104) fun t121 =>
 Pu (slS data0 (some t119) (some t121)) fun t122 =>
 RunS prog (Instr.buildSlice 59 1 #[(0, t122)]) (World.drew w105) fun t123 w124 =>
 C113 w124 ∧
 (RunS prog (Builtin.append_ #[59, 59] 59 #[t115, t123]) w124 fun t125 w126 =>
 Pu (faV 5 p22) fun t127 =>
 St 1 w126 t127 t125 fun u128 w129 =>
 Pu (aa (.int .i64) .add atv52 (.int .i64 2)) fun t130 =>
 Pu (aa (.int .i64) .add t130 t104) fun t131 =>
 Pu (aa (.int .i64) .add i53 (.int .i64 1)) fun t132 =>
 I48 [t131, t132] w129 ∧ m49 [t131, t132] w129 < m49 [atv52, i53] w93))))))
 (LdN 6 w93 p22 fun t133 w134 =>
 Cl prog 132 [t133] w134 fun t135 w136 =>
 Pu (aJ t135 0) fun t137 =>
 Pu (aJ t135 1) fun t138 =>
 Pu (aa (.int .i64) .neq t138 (.int .i64 0)) fun t139 =>
 Gd (isB false t139) (fun kk => kk t137 w136) w136 fun t140 w141 =>
 Gd (isB false t139) (fun kk => kk data0 w141) w141 fun t142 w143 =>
 Gd (isB false t139) (fun kk => Pu (aa TypeDesc.string .neq t140 t142) fun vv => kk vv w143) w143 fun t144 w145 =>
 Pu (ak t139 (.bool true) t144) fun t146 =>
 IfB t146
 (RunS prog (Instr.build 61 #[]) w145 fun t147 w148 =>
 St 6 w148 t1 t147 fun u149 w150 =>
 bU (bF prog (fun j => bif Nat.beq j 2 then t1 else bif Nat.beq j 3 then (.int .i64 31) else undef) w150 [(ResultVar.cell 2 61), (ResultVar.tmp 3)]) w150 k)
 (LdN 6 w145 p22 fun t151 w152 =>
 St 6 w152 t1 t151 fun u153 w154 =>
 bU (bF prog (fun j => bif Nat.beq j 2 then t1 else bif Nat.beq j 3 then (.int .i64 0) else undef) w154 [(ResultVar.cell 2 61), (ResultVar.tmp 3)]) w154 k)))))
 (fun jj21 =>
 ∃ C155 : World → Prop, C155 (World.drew w14) ∧
 (Pu (slS data0 (some (.int .i64 4)) (some (.int .i64 12))) fun t156 =>
 Pu (ixS data0 (.int .i64 12)) fun t157 =>
 Pu (cvI IntKind.i64 t157) fun t158 =>
 Pu (ixS data0 (.int .i64 13)) fun t159 =>
 Pu (cvI IntKind.i64 t159) fun t160 =>
 Pu (slS data0 (some (.int .i64 14)) (some (.int .i64 18))) fun t161 =>
 (Cl prog 83 [t156] (World.drew w14) fun t162 w163 =>
 C155 w163 ∧
 ((Cl prog 83 [t161] w163 fun t164 w165 =>
 C155 w165 ∧
 (∃ t166, (∀ w167, C155 w167 → RunS prog (Instr.build 61 #[(0, t162), (1, t158), (2, t160), (3, t164)]) w167 fun t168 w169 =>
 t168 = t166 ∧ w169 = w167) ∧
 (New #[(.int .i64 0), (.int .i64 0), (.int .i64 0), (.int .i64 0), (.string (.mk #[])), (.slice none 0 0)] 61 w165 fun p170 w171 =>
 C155 w171 ∧
 (St 6 w171 p170 t166 fun u172 w173 =>
 jj21 [p170] w173)))) ∧
 (New #[(.int .i64 0), (.int .i64 0), (.int .i64 0), (.int .i64 0), (.string (.mk #[])), (.slice none 0 0)] 61 w163 fun p174 w175 =>
 C155 w175 ∧
 (Cl prog 83 [t161] w175 fun t176 w177 =>
 C155 w177 ∧
 (RunS prog (Instr.build 61 #[(0, t162), (1, t158), (2, t160), (3, t176)]) w177 fun t178 w179 =>
 w179 = w177 ∧
 St 6 w177 p174 t178 fun u180 w181 =>
 jj21 [p174] w181))) ∧
 True)) ∧
 (New #[(.int .i64 0), (.int .i64 0), (.int .i64 0), (.int .i64 0), (.string (.mk #[])), (.slice none 0 0)] 61 (World.drew w14) fun p182 w183 =>
 C155 w183 ∧
 (Cl prog 83 [t156] w183 fun t184 w185 =>
 C155 w185 ∧
 (Cl prog 83 [t161] w185 fun t186 w187 =>
 C155 w187 ∧
 (RunS prog (Instr.build 61 #[(0, t184), (1, t158), (2, t160), (3, t186)]) w187 fun t188 w189 =>
 w189 = w187 ∧
 St 6 w187 p182 t188 fun u190 w191 =>
 jj21 [p182] w191)))) ∧
 True))))
theorem c127 {k : KV} {data0 : Value} {w : World} (h : T127 k data0 w) : Cl prog 127 [data0] w k :=
 cE ac mixed (fun j => bif Nat.beq j 10 then [6, 7] else []) (fun j => bif Nat.beq j 6 then some [4] else none) Tryz.func127 (by kernel_rfl) (by kernel_rfl) (by kernel_rfl) h
def T132 (k : KV) (p0 : Value) (w : World) : Prop :=
 New (Value.cells p0) 61 w fun p1 w2 =>
 Pu (faV 0 p1) fun t3 =>
 Ld w2 t3 fun t4 w5 =>
 Pu (aa (.int .i64) .lss t4 (.int .i64 0)) fun t6 =>
 Gd (isB false t6) (fun kk => Pu (faV 1 p1) fun vv => kk vv w5) w5 fun t7 w8 =>
 Gd (isB false t6) (fun kk => Ld w8 t7 kk) w8 fun t9 w10 =>
 Gd (isB false t6) (fun kk => Pu (aa (.int .i64) .lss t9 (.int .i64 1)) fun vv => kk vv w10) w10 fun t11 w12 =>
 Pu (ak t6 (.bool true) t11) fun t13 =>
 Gd (isB false t13) (fun kk => Pu (faV 1 p1) fun vv => kk vv w12) w12 fun t14 w15 =>
 Gd (isB false t13) (fun kk => Ld w15 t14 kk) w15 fun t16 w17 =>
 Gd (isB false t13) (fun kk => Pu (aa (.int .i64) .gtr t16 (.int .i64 3)) fun vv => kk vv w17) w17 fun t18 w19 =>
 Pu (ak t13 (.bool true) t18) fun t20 =>
 Gd (isB false t20) (fun kk => Pu (faV 2 p1) fun vv => kk vv w19) w19 fun t21 w22 =>
 Gd (isB false t20) (fun kk => Ld w22 t21 kk) w22 fun t23 w24 =>
 Gd (isB false t20) (fun kk => Pu (aa (.int .i64) .lss t23 (.int .i64 0)) fun vv => kk vv w24) w24 fun t25 w26 =>
 Pu (ak t20 (.bool true) t25) fun t27 =>
 Gd (isB false t27) (fun kk => Pu (faV 2 p1) fun vv => kk vv w26) w26 fun t28 w29 =>
 Gd (isB false t27) (fun kk => Ld w29 t28 kk) w29 fun t30 w31 =>
 Gd (isB false t27) (fun kk => Pu (aa (.int .i64) .gtr t30 (.int .i64 255)) fun vv => kk vv w31) w31 fun t32 w33 =>
 Pu (ak t27 (.bool true) t32) fun t34 =>
 Gd (isB false t34) (fun kk => Pu (faV 3 p1) fun vv => kk vv w33) w33 fun t35 w36 =>
 Gd (isB false t34) (fun kk => Ld w36 t35 kk) w36 fun t37 w38 =>
 Gd (isB false t34) (fun kk => Pu (aa (.int .i64) .lss t37 (.int .i64 0)) fun vv => kk vv w38) w38 fun t39 w40 =>
 Pu (ak t34 (.bool true) t39) fun t41 =>
 Gd (isB false t41) (fun kk => Pu (faV 3 p1) fun vv => kk vv w40) w40 fun t42 w43 =>
 Gd (isB false t41) (fun kk => Ld w43 t42 kk) w43 fun t44 w45 =>
 Gd (isB false t41) (fun kk => Pu (aa (.int .i64) .gtr t44 (.int .i64 4294967295)) fun vv => kk vv w45) w45 fun t46 w47 =>
 Pu (ak t41 (.bool true) t46) fun t48 =>
 IfB t48
 (k (.tuple #[(.string (.mk #[])), (.int .i64 4)]) w47)
 (Pu (faV 4 p1) fun t49 =>
 Ld w47 t49 fun t50 w51 =>
 Pu (bu t50) fun t52 =>
 Pu (aa (.int .i64) .gtr t52 (.int .i64 255)) fun t53 =>
 Gd (isB false t53) (fun kk => Pu (faV 5 p1) fun vv => kk vv w51) w51 fun t54 w55 =>
 Gd (isB false t53) (fun kk => Ld w55 t54 kk) w55 fun t56 w57 =>
 Gd (isB false t53) (fun kk => Pu (lenV t56) fun vv => kk vv w57) w57 fun t58 w59 =>
 Gd (isB false t53) (fun kk => Pu (aa (.int .i64) .gtr t58 (.int .i64 255)) fun vv => kk vv w59) w59 fun t60 w61 =>
 Pu (ak t53 (.bool true) t60) fun t62 =>
 Gd (isB false t62) (fun kk => LdN 6 w61 p1 kk) w61 fun t63 w64 =>
 Gd (isB false t62) (fun kk => Cl prog 193 [t63] w64 kk) w64 fun t65 w66 =>
 Gd (isB false t62) (fun kk => Pu (aa (.int .i64) .gtr t65 (.int .i64 512)) fun vv => kk vv w66) w66 fun t67 w68 =>
 Pu (ak t62 (.bool true) t67) fun t69 =>
 IfB t69
 (k (.tuple #[(.string (.mk #[])), (.int .i64 3)]) w68)
 (∃ C70 : World → Prop, C70 (World.drew w68) ∧
 (Pu (faV 0 p1) fun t71 =>
 Ld (World.drew w68) t71 fun t72 w73 =>
 w73 = (World.drew w68) ∧
 Pu (faV 1 p1) fun t74 =>
 ∃ t75, (∀ w76, C70 w76 → Ld w76 t74 fun t77 w78 =>
 t77 = t75 ∧ w78 = w76) ∧
 (Pu (faV 2 p1) fun t79 =>
 ∃ t80, (∀ w81, C70 w81 → Ld w81 t79 fun t82 w83 =>
 t82 = t80 ∧ w83 = w81) ∧
 (Pu (faV 3 p1) fun t84 =>
 ∃ t85, (∀ w86, C70 w86 → Ld w86 t84 fun t87 w88 =>
 t87 = t85 ∧ w88 = w86) ∧
 (Pu (faV 5 p1) fun t89 =>
 ∃ t90, (∀ w91, C70 w91 → Ld w91 t89 fun t92 w93 =>
 t92 = t90 ∧ w93 = w91) ∧
 (Pu (lenV t90) fun t94 =>
 Pu (faV 4 p1) fun t95 =>
 ∃ t96, (∀ w97, C70 w97 → Ld w97 t95 fun t98 w99 =>
 t98 = t96 ∧ w99 = w97) ∧
 (Pu (bu t96) fun t100 =>
 Pu (faV 4 p1) fun t101 =>
 ∃ t102, (∀ w103, C70 w103 → Ld w103 t101 fun t104 w105 =>
 t104 = t102 ∧ w105 = w103) ∧
 (Cl prog 192 [t72, (.int .i64 8)] (World.drew w68) fun t106 w107 =>
 C70 w107 ∧
 (Cl prog 192 [t75, (.int .i64 1)] w107 fun t108 w109 =>
 C70 w109 ∧
 (Pu (aa TypeDesc.string .add t106 t108) fun t110 =>
 Cl prog 192 [t80, (.int .i64 1)] w109 fun t111 w112 =>
 C70 w112 ∧
 (Pu (aa TypeDesc.string .add t110 t111) fun t113 =>
 Cl prog 192 [t85, (.int .i64 4)] w112 fun t114 w115 =>
 C70 w115 ∧
 (Pu (aa TypeDesc.string .add t113 t114) fun t116 =>
 Cl prog 192 [t94, (.int .i64 1)] w115 fun t117 w118 =>
 C70 w118 ∧
 (Pu (aa TypeDesc.string .add t116 t117) fun t119 =>
 Cl prog 192 [t100, (.int .i64 1)] w118 fun t120 w121 =>
 C70 w121 ∧
 (Pu (aa TypeDesc.string .add t119 t120) fun t122 =>
 Pu (aa TypeDesc.string .add t122 t102) fun t123 =>
 ∃ (I124 : List Value → World → Prop) (m125 : List Value → World → Nat), I124 [t123, (.int .i64 0)] w121 ∧
 ∀ (g152 : Fr) (w151 : World), ∀ s127 : Value, ∀ i128 : Value, I124 [s127, i128] w151 →
 (Pu (faV 5 p1) fun t153 =>
 Ld w151 t153 fun t154 w155 =>
 Pu (lenV t154) fun t156 =>
 Pu (aa (.int .i64) .lss i128 t156) fun t157 =>
 IfB t157
 (∃ C158 : World → Prop, C158 (World.drew w155) ∧
 (Pu (faV 5 p1) fun t159 =>
 Ld (World.drew w155) t159 fun t160 w161 =>
 w161 = (World.drew w155) ∧
 Pu (ixV 1 t160 i128) fun t162 =>
 Ld (World.drew w155) t162 fun t163 w164 =>
 w164 = (World.drew w155) ∧
 Pu (bu t163) fun t165 =>
 Pu (faV 5 p1) fun t166 =>
 ∃ t167, (∀ w168, C158 w168 → Ld w168 t166 fun t169 w170 =>
 t169 = t167 ∧ w170 = w168) ∧
 (Pu (ixV 1 t167 i128) fun t171 =>
 ∃ t172, (∀ w173, C158 w173 → Ld w173 t171 fun t174 w175 =>
 t174 = t172 ∧ w175 = w173) ∧
 (Cl prog 192 [t165, (.int .i64 2)] (World.drew w155) fun t176 w177 =>
 C158 w177 ∧
 (Pu (aa TypeDesc.string .add s127 t176) fun t178 =>
 Pu (aa TypeDesc.string .add t178 t172) fun t179 =>
 Pu (aa (.int .i64) .add i128 (.int .i64 1)) fun t180 =>
 I124 [t179, t180] w177 ∧ m125 [t179, t180] w177 < m125 [s127, i128] w151)))))
 (Pu (bu s127) fun t181 =>
 Pu (aa (.int .i64) .sub (.int .i64 508) t181) fun t182 =>
 RunS prog (Instr.makeSlice 123 t182 t182) w155 fun t183 w184 =>
 RunS prog (convert 123 9 t183) w184 fun t185 w186 =>
 Pu (aa TypeDesc.string .add s127 t185) fun t187 =>
 Cl prog 84 [t187] w186 fun t188 w189 =>
 Pu (cvI IntKind.i64 t188) fun t190 =>
 Cl prog 192 [t190, (.int .i64 4)] w189 fun t191 w192 =>
 Pu (aa TypeDesc.string .add t191 t187) fun t193 =>
 k (.tuple #[t193, (.int .i64 0)]) w192)))))))))))))))))
theorem c132 {k : KV} {p0 : Value} {w : World} (h : T132 k p0 w) : Cl prog 132 [p0] w k :=
 cE ac mixed (fun j => bif Nat.beq j 7 then [4, 5] else []) J0 Tryz.func132 (by kernel_rfl) (by kernel_rfl) (by kernel_rfl) h
def T193 (k : KV) (p0 : Value) (w : World) : Prop :=
 New (Value.cells p0) 61 w fun p1 w2 =>
 Pu (faV 4 p1) fun t3 =>
 Ld w2 t3 fun t4 w5 =>
 Pu (bu t4) fun t6 =>
 Pu (aa (.int .i64) .add (.int .i64 20) t6) fun t7 =>
 ∃ (I8 : List Value → World → Prop) (m9 : List Value → World → Nat), I8 [t7, (.int .i64 0)] w5 ∧
 ∀ (g30 : Fr) (w29 : World), ∀ n11 : Value, ∀ i12 : Value, I8 [n11, i12] w29 →
 (Pu (faV 5 p1) fun t31 =>
 Ld w29 t31 fun t32 w33 =>
 Pu (lenV t32) fun t34 =>
 Pu (aa (.int .i64) .lss i12 t34) fun t35 =>
 IfB t35
 (Pu (aa (.int .i64) .add n11 (.int .i64 2)) fun t36 =>
 Pu (faV 5 p1) fun t37 =>
 Ld w33 t37 fun t38 w39 =>
 Pu (ixV 1 t38 i12) fun t40 =>
 Ld w39 t40 fun t41 w42 =>
 Pu (bu t41) fun t43 =>
 Pu (aa (.int .i64) .add t36 t43) fun t44 =>
 Pu (aa (.int .i64) .add i12 (.int .i64 1)) fun t45 =>
 I8 [t44, t45] w42 ∧ m9 [t44, t45] w42 < m9 [n11, i12] w29)
 (k n11 w33))
theorem c193 {k : KV} {p0 : Value} {w : World} (h : T193 k p0 w) : Cl prog 193 [p0] w k :=
 cE ac mixed (fun j => bif Nat.beq j 3 then [3, 4] else []) J0 Tryz.func193 (by kernel_rfl) (by kernel_rfl) (by kernel_rfl) h
end Go.Proofs.YthbngnlmgplijaaGreatDoor
namespace Go.Al
def mH (c : Nat) : Nat := (c / 2) ^^^ (if c % 2 = 1 then 3988292384 else 0)
def ib : Nat → Nat → Nat
 | 0, c => c
 | k + 1, c => ib k (mH c)
def vH (c : Nat) (b : UInt8) : Nat := ib 8 (c ^^^ b.toNat)
def qc (c : Nat) (l : Bs) : Nat := l.foldl vH c
def crc (l : Bs) : Nat := qc 4294967295 l ^^^ 4294967295
theorem sS {c : Nat} (h : c < 2 ^ 32) : mH c < 2 ^ 32 := by
 unfold mH
 refine Nat.xor_lt_two_pow (by omega) ?_
 split <;> omega
theorem hU : ∀ (k : Nat) {c : Nat}, c < 2 ^ 32 → ib k c < 2 ^ 32
 | 0, _, h => h
 | k + 1, _, h => hU k (sS h)
theorem mG {c : Nat} (h : c < 2 ^ 32) (b : UInt8) : c ^^^ b.toNat < 2 ^ 32 := Nat.xor_lt_two_pow h (by have := b.toNat_lt; omega)
theorem sT {c : Nat} (h : c < 2 ^ 32) (b : UInt8) : vH c b < 2 ^ 32 := hU 8 (mG h b)
theorem jS : ∀ (l : Bs) {c : Nat}, c < 2 ^ 32 → qc c l < 2 ^ 32
 | [], _, h => h
 | b :: l, _, h => jS l (sT h b)
theorem pR (l : Bs) : crc l < 2 ^ 32 := Nat.xor_lt_two_pow (jS l (by omega)) (by omega)
theorem re (a b : Nat) : mH (a ^^^ b) = mH a ^^^ mH b := by
 unfold mH
 have h1 : (a ^^^ b) / 2 = a / 2 ^^^ b / 2 := by
  have := Nat.shiftRight_xor_distrib (a := a) (b := b) (i := 1)
  simpa [Nat.shiftRight_eq_div_pow] using this
 have h2 : (a ^^^ b) % 2 = (a % 2 ^^^ b % 2) := by
  have := Nat.xor_mod_two_pow (a := a) (b := b) (n := 1)
  simpa using this
 rw [h1, h2]
 have ha : a % 2 = 0 ∨ a % 2 = 1 := by omega
 have hb : b % 2 = 0 ∨ b % 2 = 1 := by omega
 rcases ha with ha | ha <;> rcases hb with hb | hb <;> rw [ha, hb] <;> simp
 ·rw [Nat.xor_assoc]
 ·rw [Nat.xor_assoc, Nat.xor_assoc, Nat.xor_comm (b / 2)]
 ·rw [Nat.xor_assoc, Nat.xor_comm 3988292384, Nat.xor_assoc, Nat.xor_self, Nat.xor_zero]
theorem nh : ∀ (k a b : Nat), ib k (a ^^^ b) = ib k a ^^^ ib k b
 | 0, _, _ => rfl
 | k + 1, a, b => by rw [ib, re, nh k]; rfl
theorem iZ : ∀ (k x : Nat), ib k (x * 2 ^ k) = x
 | 0, x => by simp [ib]
 | k + 1, x => by
  rw [ib]
  have : mH (x * 2 ^ (k + 1)) = x * 2 ^ k := by
   unfold mH
   rw [Nat.pow_succ, ← Nat.mul_assoc, Nat.mul_div_cancel _ (by omega), if_neg (by omega), Nat.xor_zero]
  rw [this]; exact iZ k x
theorem nQ (c : Nat) : c = (c / 256 * 256) ^^^ (c % 256) := by
 have h := Nat.two_pow_add_eq_or_of_lt (i := 8) (b := c % 256) (by omega) (c / 256)
 apply Nat.eq_of_testBit_eq
 intro i
 rw [Nat.testBit_xor, show c / 256 * 256 = (c / 256) * 2 ^ 8 from rfl, Nat.testBit_mul_two_pow, show c % 256 = c % 2 ^ 8 from rfl, Nat.testBit_mod_two_pow, show c / 256 = c / 2 ^ 8 from rfl, Nat.testBit_div_two_pow]
 by_cases hi : i < 8
 ·simp [hi, show ¬ 8 ≤ i by omega]
 ·simp [hi, show 8 ≤ i by omega]
theorem nU (c : Nat) (b : UInt8) : vH c b = c / 256 ^^^ ib 8 (c % 256 ^^^ b.toNat) := by
 unfold vH
 have h : c ^^^ b.toNat = (c / 256 * 256) ^^^ (c % 256 ^^^ b.toNat) := by rw [← Nat.xor_assoc, ← nQ]
 rw [h, nh, show c / 256 * 256 = c / 256 * 2 ^ 8 from rfl, iZ]
def beN : Nat → Nat → Bs
 | 0, _ => []
 | k + 1, n => beN k (n / 256) ++ [UInt8.ofNat (n % 256)]
def ofB (l : Bs) : Nat := l.foldl (fun n b => n * 256 + b.toNat) 0
theorem aw : ∀ (k n : Nat), (beN k n).length = k
 | 0, _ => rfl
 | k + 1, n => by rw [beN, List.length_append, aw]; rfl
theorem mT (l : Bs) (b : UInt8) : ofB (l ++ [b]) = ofB l * 256 + b.toNat := by unfold ofB; rw [List.foldl_append]; rfl
theorem dQ {n : Nat} (h : n < 256) : (UInt8.ofNat n).toNat = n := by simp [Nat.mod_eq_of_lt h]
theorem fc : ∀ (k n : Nat), ofB (beN k n) = n % 256 ^ k
 | 0, n => by simp [beN, ofB, Nat.mod_one]
 | k + 1, n => by
  rw [beN, mT, fc, dQ (by omega), Nat.pow_succ]
  rw [Nat.mul_comm (256 ^ k) 256, Nat.mod_mul]
  omega
theorem te : ∀ (k : Nat) (l : Bs), l.length = k + 1 → ∃ m b, l = m ++ [b] ∧ m.length = k := by
 intro k l h
 have hne : l ≠ [] := by rintro rfl; simp at h
 exact ⟨l.dropLast, l.getLast hne, (List.dropLast_concat_getLast hne).symm, by rw [List.length_dropLast, h]; rfl⟩
theorem dJ : ∀ (k : Nat) (l : Bs), l.length = k → beN k (ofB l) = l
 | 0, l, h => by rw [List.eq_nil_of_length_eq_zero h]; rfl
 | k + 1, l, h => by
  obtain ⟨m, b, rfl, hm⟩ := te k l h
  have hb := b.toNat_lt
  rw [mT, beN, show (ofB m * 256 + b.toNat) / 256 = ofB m by omega, show (ofB m * 256 + b.toNat) % 256 = b.toNat by omega, dJ k m hm]
  congr 2
  exact UInt8.toNat_inj.1 (dQ (by omega))
theorem ij : ∀ (k : Nat) (l : Bs), l.length = k → ofB l < 256 ^ k := by
 intro k l h
 have := fc k (ofB l)
 rw [dJ k l h] at this
 rw [this]
 exact Nat.mod_lt _ (Nat.pow_pos (by omega))
theorem wa (b : UInt8) : beN 1 b.toNat = [b] := by
 have := dJ 1 [b] rfl
 have h : ofB [b] = b.toNat := by simp [ofB]
 rw [h] at this; exact this
structure Pg where
 lsn : Int
 kind : Int
 level : Int
 right : Int
 high : Bs
 items : List Bs
deriving DecidableEq
def pg0 : Pg := ⟨0, 0, 0, 0, [], []⟩
def aG (n : Nat) : Bs := List.replicate n 0
theorem bx (n : Nat) : (aG n).length = n := List.length_replicate
def itB (it : Bs) : Bs := beN 2 it.length ++ it
theorem kb (it : Bs) : (itB it).length = 2 + it.length := by rw [itB, List.length_append, aw]
def cI (p : Pg) : Nat := p.items.foldl (fun n it => n + (2 + it.length)) (20 + p.high.length)
def eY (p : Pg) : Bs := beN 8 p.lsn.toNat ++ (beN 1 p.kind.toNat ++ (beN 1 p.level.toNat ++ (beN 4 p.right.toNat ++ (beN 1 p.items.length ++ (beN 1 p.high.length ++ p.high)))))
def bQ (p : Pg) : Bs := eY p ++ p.items.flatMap itB
def bX (p : Pg) : Bs := bQ p ++ aG (508 - (bQ p).length)
def pErr (p : Pg) : Int :=
 bif decide (p.lsn < 0 ∨ p.level < 0 ∨ p.right < 0 ∨ p.kind < 1 ∨ 3 < p.kind ∨ 255 < p.level ∨ 4294967295 < p.right) then 4
 else bif decide (255 < p.high.length ∨ 255 < p.items.length ∨ 512 < cI p) then 3 else 0
def eD (p : Pg) : Bs × Int := bif decide (pErr p = 0) then (beN 4 (crc (bX p)) ++ bX p, 0) else ([], pErr p)
theorem kh (l : List Bs) (n : Nat) : l.foldl (fun n it => n + (2 + it.length)) n = n + (l.flatMap itB).length := by
 induction l generalizing n with
 | nil => simp
 | cons x l ih => rw [List.foldl_cons, ih, List.flatMap_cons, List.length_append, kb]; omega
theorem pe (p : Pg) : (eY p).length = 16 + p.high.length := by
 simp only [eY, List.length_append, aw]; omega
theorem fx (p : Pg) : (bQ p).length + 4 = cI p := by
 rw [cI, kh, bQ, List.length_append, pe]; omega
theorem iB {p : Pg} (h : cI p ≤ 512) : (bX p).length = 508 := by
 have := fx p
 rw [bX, List.length_append, bx]; omega
theorem ka {p : Pg} (h : pErr p = 0) : (0 ≤ p.lsn ∧ 0 ≤ p.level ∧ 0 ≤ p.right ∧ 1 ≤ p.kind ∧ p.kind ≤ 3 ∧ p.level ≤ 255 ∧ p.right ≤ 4294967295) ∧ p.high.length ≤ 255 ∧ p.items.length ≤ 255 ∧ cI p ≤ 512 := by
 unfold pErr at h
 cases h1 : decide (p.lsn < 0 ∨ p.level < 0 ∨ p.right < 0 ∨ p.kind < 1 ∨ 3 < p.kind ∨ 255 < p.level ∨ 4294967295 < p.right) with
 | true => rw [h1] at h; simp at h
 | false =>
  cases h2 : decide (255 < p.high.length ∨ 255 < p.items.length ∨ 512 < cI p) with
  | true => rw [h1, h2] at h; simp at h
  | false =>
   rw [decide_eq_false_iff_not] at h1 h2
   omega
theorem sZ {p : Pg} (h : (0 ≤ p.lsn ∧ 0 ≤ p.level ∧ 0 ≤ p.right ∧ 1 ≤ p.kind ∧ p.kind ≤ 3 ∧ p.level ≤ 255 ∧ p.right ≤ 4294967295) ∧ p.high.length ≤ 255 ∧ p.items.length ≤ 255 ∧ cI p ≤ 512) : pErr p = 0 := by
 unfold pErr
 rw [show decide (p.lsn < 0 ∨ p.level < 0 ∨ p.right < 0 ∨ p.kind < 1 ∨ 3 < p.kind ∨ 255 < p.level ∨ 4294967295 < p.right) = false by rw [decide_eq_false_iff_not]; omega, show decide (255 < p.high.length ∨ 255 < p.items.length ∨ 512 < cI p) = false by rw [decide_eq_false_iff_not]; omega]
 rfl
theorem hG {p : Pg} (h : pErr p = 0) : eD p = (beN 4 (crc (bX p)) ++ bX p, 0) := by unfold eD; rw [h]; rfl
theorem jK {p : Pg} (h : pErr p ≠ 0) : eD p = ([], pErr p) := by
 unfold eD
 rw [show decide (pErr p = 0) = false by simpa using h]; rfl
theorem el {p : Pg} (h : pErr p = 0) : (eD p).1.length = 512 := by
 rw [hG h, List.length_append, aw, iB (ka h).2.2.2]
theorem gw (p : Pg) : (eD p).2 = pErr p := by
 by_cases h : pErr p = 0
 ·rw [hG h, h]
 ·rw [jK h]
def bS : Nat → Bs → Option (List Bs × Bs)
 | 0, s => some ([], s)
 | n + 1, s => bif decide (s.length < 2) then none
  else bif decide ((s.drop 2).length < ofB (s.take 2)) then none
  else (bS n ((s.drop 2).drop (ofB (s.take 2)))).map fun x => ((s.drop 2).take (ofB (s.take 2)) :: x.1, x.2)
theorem ry (k n : Nat) (t : Bs) : (beN k n ++ t).take k = beN k n := by rw [List.take_append_of_le_length (by rw [aw]; exact Nat.le_refl _), List.take_of_length_le (by rw [aw]; exact Nat.le_refl _)]
theorem nx (k n : Nat) (t : Bs) : (beN k n ++ t).drop k = t := List.drop_left' (aw k n)
theorem kl : ∀ (l : List Bs) (t : Bs), (∀ it ∈ l, it.length < 65536) → bS l.length (l.flatMap itB ++ t) = some (l, t)
 | [], t, _ => rfl
 | x :: l, t, h => by
  have hx := h x (by simp)
  have ih := kl l t (fun it hi => h it (List.mem_cons_of_mem _ hi))
  rw [List.length_cons, bS, List.flatMap_cons, itB]
  have e : (beN 2 x.length ++ x ++ l.flatMap itB ++ t) = beN 2 x.length ++ (x ++ (l.flatMap itB ++ t)) := by simp only [List.append_assoc]
  rw [e, ry, nx, fc, Nat.mod_eq_of_lt (by omega)]
  rw [show decide ((beN 2 x.length ++ (x ++ (l.flatMap itB ++ t))).length < 2) = false by rw [decide_eq_false_iff_not, List.length_append, aw]; omega, cond_false]
  rw [show decide ((x ++ (l.flatMap itB ++ t)).length < x.length) = false by rw [decide_eq_false_iff_not, List.length_append]; omega, cond_false]
  rw [List.drop_left, List.take_left, ih]; rfl
theorem kx : ∀ (n : Nat) (s : Bs) (l : List Bs) (t : Bs), bS n s = some (l, t) → l.length = n ∧ s = l.flatMap itB ++ t ∧ ∀ it ∈ l, it.length < 65536
 | 0, s, l, t, h => by
  rw [bS] at h; cases h
  exact ⟨rfl, rfl, by simp⟩
 | n + 1, s, l, t, h => by
  rw [bS] at h
  cases h1 : decide (s.length < 2) with
  | true => rw [h1, cond_true] at h; cases h
  | false =>
  cases h2 : decide ((s.drop 2).length < ofB (s.take 2)) with
  | true => rw [h1, h2, cond_false, cond_true] at h; cases h
  | false =>
  rw [h1, h2, cond_false, cond_false] at h
  cases h3 : bS n ((s.drop 2).drop (ofB (s.take 2))) with
  | none => rw [h3] at h; cases h
  | some q =>
   obtain ⟨l', t'⟩ := q
   rw [h3] at h
   cases h
   obtain ⟨g1, g2, g3⟩ := kx n _ _ _ h3
   rw [decide_eq_false_iff_not] at h1 h2
   have hlt : ofB (s.take 2) < 256 ^ 2 := ij 2 _ (by rw [List.length_take]; omega)
   have hl : ((s.drop 2).take (ofB (s.take 2))).length = ofB (s.take 2) := by rw [List.length_take]; omega
   refine ⟨by simp [g1], ?_, ?_⟩
   ·rw [List.flatMap_cons, itB, hl, dJ 2 _ (by rw [List.length_take]; omega)]
    rw [List.append_assoc, List.append_assoc, ← g2, List.take_append_drop, List.take_append_drop]
   ·intro it hi
    rcases List.mem_cons.1 hi with rfl | hi
    ·rw [hl]; exact hlt
    ·exact g3 it hi
def oI (d : Bs) : Nat := ofB ((d.drop 4).take 8)
def bP (d : Bs) : Nat := (d.getD 12 0).toNat
def cD (d : Bs) : Nat := (d.getD 13 0).toNat
def du (d : Bs) : Nat := ofB ((d.drop 14).take 4)
def bf (d : Bs) : Nat := (d.getD 18 0).toNat
def dHl (d : Bs) : Nat := (d.getD 19 0).toNat
def gv (d : Bs) : Bs := (d.drop 20).take (dHl d)
def dm (d : Bs) : Bs := (d.drop 20).drop (dHl d)
def cP (d : Bs) : Pg × Int :=
 bif decide (d.length ≠ 512) then (pg0, 31)
 else bif decide (beN 4 (crc (d.drop 4)) ≠ d.take 4) then (pg0, 30)
 else match bS (bf d) (dm d) with
  | none => (pg0, 31)
  | some (l, t) => bif decide (t ≠ aG t.length ∨ 127 < (d.getD 4 0).toNat ∨ bP d < 1 ∨ 3 < bP d) then (pg0, 31)
   else (⟨(oI d % 2 ^ 63 : Nat), bP d, cD d, du d, gv d, l⟩, 0)
def parts (s l8 : Bs) (k v : UInt8) (r : Bs) (n h : UInt8) (tail : Bs) : Bs := s ++ (l8 ++ (k :: v :: (r ++ (n :: h :: tail))))
theorem qP {d : Bs} (h : d.length = 512) : ∃ s l8 k v r n hh tail, d = parts s l8 k v r n hh tail ∧ s.length = 4 ∧ l8.length = 8 ∧ r.length = 4 ∧ tail.length = 492 := by
 match d, h with
 | s0 :: s1 :: s2 :: s3 :: a0 :: a1 :: a2 :: a3 :: a4 :: a5 :: a6 :: a7 :: k :: v :: r0 :: r1 :: r2 :: r3 :: n :: hh :: tail, h =>
  exact ⟨[s0, s1, s2, s3], [a0, a1, a2, a3, a4, a5, a6, a7], k, v, [r0, r1, r2, r3], n, hh, tail, rfl, rfl, rfl, rfl, by simp only [List.length_cons] at h; omega⟩
theorem nJ {s l8 r tail : Bs} {k v n h : UInt8} (hs : s.length = 4) (h8 : l8.length = 8) (hr : r.length = 4) :
  (parts s l8 k v r n h tail).take 4 = s ∧ (parts s l8 k v r n h tail).drop 4 = l8 ++ (k :: v :: (r ++ (n :: h :: tail))) ∧ oI (parts s l8 k v r n h tail) = ofB l8 ∧ bP (parts s l8 k v r n h tail) = k.toNat ∧ cD (parts s l8 k v r n h tail) = v.toNat ∧
  du (parts s l8 k v r n h tail) = ofB r ∧ bf (parts s l8 k v r n h tail) = n.toNat ∧ dHl (parts s l8 k v r n h tail) = h.toNat ∧ (parts s l8 k v r n h tail).drop 20 = tail ∧ (parts s l8 k v r n h tail).getD 4 0 = l8.getD 0 0 := by
 match s, hs, l8, h8, r, hr with
 | [s0, s1, s2, s3], _, [a0, a1, a2, a3, a4, a5, a6, a7], _, [r0, r1, r2, r3], _ => exact ⟨rfl, rfl, rfl, rfl, rfl, rfl, rfl, rfl, rfl, rfl⟩
theorem oU {l8 : Bs} (h8 : l8.length = 8) : 127 < (l8.getD 0 0).toNat ↔ 9223372036854775808 ≤ ofB l8 := by
 match l8, h8 with
 | [a0, a1, a2, a3, a4, a5, a6, a7], _ =>
  have h0 := a0.toNat_lt
  have h1 := a1.toNat_lt
  have h2 := a2.toNat_lt
  have h3 := a3.toNat_lt
  have h4 := a4.toNat_lt
  have h5 := a5.toNat_lt
  have h6 := a6.toNat_lt
  have h7 := a7.toNat_lt
  show 127 < a0.toNat ↔ _
  simp only [ofB, List.foldl_cons, List.foldl_nil]
  omega
theorem ml (p : Pg) (s : Bs) : s ++ bX p = parts s (beN 8 p.lsn.toNat) (UInt8.ofNat (p.kind.toNat % 256)) (UInt8.ofNat (p.level.toNat % 256)) (beN 4 p.right.toNat) (UInt8.ofNat (p.items.length % 256)) (UInt8.ofNat (p.high.length % 256)) (p.high ++ (p.items.flatMap itB ++ aG (508 - (bQ p).length))) := by
 rw [bX, bQ, eY, parts]
 simp only [List.append_assoc]
 rfl
theorem fT {p : Pg} (h : cI p ≤ 512) : ∀ it ∈ p.items, it.length < 65536 := by
 intro it hi
 rw [cI, kh] at h
 have : it.length ≤ (p.items.flatMap itB).length := by
  obtain ⟨l1, l2, e⟩ := List.append_of_mem hi
  rw [e, List.flatMap_append, List.flatMap_cons, List.length_append, List.length_append, kb]; omega
 omega
theorem mn {p : Pg} (h : pErr p = 0) (hl : p.lsn ≤ 9223372036854775807) : cP (eD p).1 = (p, 0) := by
 obtain ⟨⟨b1, b2, b3, b4, b5, b6, b7⟩, b8, b9, b10⟩ := ka h
 have hlen := el h
 rw [hG h] at hlen ⊢
 simp only at hlen ⊢
 obtain ⟨q1, q2, q3, q4, q5, q6, q7, q8, q9, q10⟩ := nJ (s := beN 4 (crc (bX p))) (l8 := beN 8 p.lsn.toNat) (k := UInt8.ofNat (p.kind.toNat % 256)) (v := UInt8.ofNat (p.level.toNat % 256)) (r := beN 4 p.right.toNat) (n := UInt8.ofNat (p.items.length % 256)) (h := UInt8.ofNat (p.high.length % 256)) (tail := p.high ++ (p.items.flatMap itB ++ aG (508 - (bQ p).length))) (aw _ _) (aw _ _) (aw _ _)
 have hp := ml p (beN 4 (crc (bX p)))
 have hd4 : (beN 4 (crc (bX p)) ++ bX p).drop 4 = bX p := nx _ _ _
 generalize hD : beN 4 (crc (bX p)) ++ bX p = D at hlen hd4 hp
 rw [← hp] at q1 q2 q3 q4 q5 q6 q7 q8 q9 q10
 rw [dQ (by omega)] at q4 q5 q7 q8
 rw [fc] at q3 q6
 have hmany : bf D = p.items.length := by rw [q7]; omega
 have hhl : dHl D = p.high.length := by rw [q8]; omega
 have hhigh : gv D = p.high := by rw [gv, q9, hhl, List.take_left]
 have hrest : dm D = p.items.flatMap itB ++ aG (508 - (bQ p).length) := by rw [dm, q9, hhl, List.drop_left]
 have htop : ¬ 127 < (D.getD 4 0).toNat := by
  rw [q10, oU (aw _ _), fc]; omega
 unfold cP
 rw [show decide (D.length ≠ 512) = false by simpa using hlen, cond_false]
 rw [show decide (beN 4 (crc (D.drop 4)) ≠ D.take 4) = false by rw [hd4, q1]; simp, cond_false]
 rw [hmany, hrest, kl _ _ (fT b10)]
 simp only
 have hz : ¬ aG (508 - (bQ p).length) ≠ aG (aG (508 - (bQ p).length)).length := by rw [bx]; simp
 rw [show decide (aG (508 - (bQ p).length) ≠ aG (aG (508 - (bQ p).length)).length ∨ 127 < (D.getD 4 0).toNat ∨ bP D < 1 ∨ 3 < bP D) = false by
  rw [decide_eq_false_iff_not]
  rintro (h | h | h | h)
  ·exact hz h
  ·exact htop h
  ·omega
  ·omega, cond_false]
 rw [q3, q4, q5, q6, hhigh]
 obtain ⟨lsn, kind, level, right, high, items⟩ := p
 simp only at b1 b2 b3 b4 b5 b6 b7 hl ⊢
 congr 2 <;> omega
theorem mg {d : Bs} (h : (cP d).2 = 0) : pErr (cP d).1 = 0 ∧ (eD (cP d).1).1 = d ∧ (cP d).1.lsn ≤ 9223372036854775807 := by
 unfold cP at h ⊢
 cases h1 : decide (d.length ≠ 512) with
 | true => rw [h1, cond_true] at h; simp at h
 | false =>
 cases h2 : decide (beN 4 (crc (d.drop 4)) ≠ d.take 4) with
 | true => rw [h1, h2, cond_false, cond_true] at h; simp at h
 | false =>
 rw [h1, h2, cond_false, cond_false] at h
 simp only [cond_false]
 cases h3 : bS (bf d) (dm d) with
 | none => rw [h3] at h; simp at h
 | some q =>
 obtain ⟨l, t⟩ := q
 rw [h3] at h
 simp only at h ⊢
 cases h4 : decide (t ≠ aG t.length ∨ 127 < (d.getD 4 0).toNat ∨ bP d < 1 ∨ 3 < bP d) with
 | true => rw [h4, cond_true] at h; simp at h
 | false =>
 simp only [cond_false]
 have hlen : d.length = 512 := by simpa using h1
 have hsum : beN 4 (crc (d.drop 4)) = d.take 4 := by simpa using h2
 rw [decide_eq_false_iff_not] at h4
 have n1 : t = aG t.length := Classical.byContradiction fun hne => h4 (.inl hne)
 have n2 : ¬ 127 < (d.getD 4 0).toNat := fun e => h4 (.inr (.inl e))
 have n3 : ¬ bP d < 1 := fun e => h4 (.inr (.inr (.inl e)))
 have n4 : ¬ 3 < bP d := fun e => h4 (.inr (.inr (.inr e)))
 obtain ⟨g1, g2, g3⟩ := kx _ _ _ _ h3
 obtain ⟨s, l8, k, v, r, n, hh, tail, hd, es, e8, er, et⟩ := qP hlen
 obtain ⟨q1, q2, q3, q4, q5, q6, q7, q8, q9, q10⟩ := nJ (k := k) (v := v) (n := n) (h := hh) (tail := tail) es e8 er
 rw [← hd] at q1 q2 q3 q4 q5 q6 q7 q8 q9 q10
 have hl8 : ofB l8 < 9223372036854775808 := by
  rw [q10, oU e8] at n2; omega
 have hk := k.toNat_lt
 have hv := v.toNat_lt
 have hn := n.toNat_lt
 have hhh := hh.toNat_lt
 have hr := ij 4 r er
 have hhigh : (gv d).length = hh.toNat := by rw [gv, q9, q8, List.length_take, et]; omega
 have htail : tail = gv d ++ (l.flatMap itB ++ t) := by rw [← g2, gv, dm, q9, List.take_append_drop]
 generalize hP : (⟨(oI d % 2 ^ 63 : Nat), bP d, cD d, du d, gv d, l⟩ : Pg) = P
 have hbody : d.drop 4 = bQ P ++ t := by
  rw [q2, ← hP, bQ, eY]
  simp only [Int.toNat_natCast, q3, q4, q5, q6, hhigh, g1, q7]
  rw [Nat.mod_eq_of_lt (show ofB l8 < 2 ^ 63 by omega), dJ 8 l8 e8, dJ 4 r er, wa, wa, wa, wa, htail]
  simp only [List.append_assoc, List.cons_append, List.nil_append]
 have hbl : (bQ P).length + t.length = 508 := by
  have := congrArg List.length hbody
  rw [List.length_append, List.length_drop, hlen] at this; omega
 have htz : t = aG (508 - (bQ P).length) := by
  rw [show 508 - (bQ P).length = t.length by omega]
  exact n1
 have hsz : cI P ≤ 512 := by have := fx P; omega
 have hok : pErr P = 0 := by
  refine sZ ⟨?_, ?_, ?_, hsz⟩
  ·rw [← hP]
   simp only
   omega
  ·rw [← hP]; simp only; omega
  ·rw [← hP]; simp only; omega
 refine ⟨hok, ?_, ?_⟩
 ·rw [hG hok]
  have ht : bX P = d.drop 4 := by rw [bX, ← htz, hbody]
  simp only
  rw [ht, hsum, List.take_append_drop]
 ·omega
abbrev uv (n : Nat) : Value := Value.int .u32 n
abbrev qv (n : Nat) : Value := Value.int .u64 n
theorem aV (k j : IntKind) (n : Int) : cvI k (.int j n) = some (.int k (k.wrap n)) := rfl
theorem eu {n : Nat} (h : n < 2 ^ 32) : IntKind.u32.wrap (n : Int) = n := by
 unfold IntKind.wrap; simp [IntKind.bits, IntKind.signed]; omega
theorem jC {n : Nat} (h : n < 2 ^ 64) : IntKind.u64.wrap (n : Int) = n := by
 unfold IntKind.wrap; simp [IntKind.bits, IntKind.signed]; omega
theorem lq (n : Nat) : IntKind.u64.wrap (n : Int) = ((n % 2 ^ 64 : Nat) : Int) := by
 unfold IntKind.wrap; simp [IntKind.bits, IntKind.signed]
theorem gM (n : Nat) : IntKind.u8.wrap (n : Int) = ((n % 256 : Nat) : Int) := by
 unfold IntKind.wrap; simp [IntKind.bits, IntKind.signed]
theorem eJ (d : TypeDesc) {a b : Nat} (ha : a < 2 ^ 32) (hb : b < 2 ^ 32) : aa d .xor (uv a) (uv b) = some (uv (a ^^^ b)) := by
 have : aa d .xor (uv a) (uv b) = some (.int .u32 (IntKind.u32.wrap ((BitVec.ofInt 32 (a : Int)) ^^^ (BitVec.ofInt 32 (b : Int))).toNat)) := rfl
 rw [this, BitVec.toNat_xor, aN 32 a ha, aN 32 b hb, eu (Nat.xor_lt_two_pow ha hb)]
theorem pl (d : TypeDesc) {a b : Nat} (ha : a < 2 ^ 32) (hb : b < 2 ^ 32) : aa d .and (uv a) (uv b) = some (uv (a &&& b)) := by
 have : aa d .and (uv a) (uv b) = some (.int .u32 (IntKind.u32.wrap ((BitVec.ofInt 32 (a : Int)) &&& (BitVec.ofInt 32 (b : Int))).toNat)) := rfl
 rw [this, BitVec.toNat_and, aN 32 a ha, aN 32 b hb, eu (Nat.lt_of_le_of_lt Nat.and_le_left ha)]
theorem tj {a : Nat} (ha : a < 2 ^ 32) : unV .xor (uv a) = some (uv (a ^^^ 4294967295)) := by
 have : unV .xor (uv a) = some (.int .u32 (IntKind.u32.wrap ((BitVec.ofInt 32 (4294967295 : Nat)) ^^^ (BitVec.ofInt 32 (a : Int))).toNat)) := rfl
 rw [this, BitVec.toNat_xor, aN 32 a ha, aN 32 4294967295 (by omega), Nat.xor_comm, eu (Nat.xor_lt_two_pow ha (by omega))]
theorem qf (d : TypeDesc) {a k : Nat} (hk : k ≤ 32) (j : IntKind) {b : Int} (hb : b = (k : Int)) : aa d .shr (uv a) (.int j b) = some (uv (a / 2 ^ k)) := by
 subst hb
 have h0 : ¬ ((k : Int) < 0) := by omega
 have e : aa d .shr (uv a) (.int j k) = some (.int .u32 ((a : Int).fdiv (2 ^ (min (k : Int).toNat IntKind.u32.bits)))) := by
  rw [mN]; unfold shV; rw [if_neg h0]
 rw [e]
 have e2 : min (k : Int).toNat IntKind.u32.bits = k := by show min (k : Int).toNat 32 = k; omega
 rw [e2]
 congr 2
 rw [Int.fdiv_eq_ediv_of_nonneg _ (by exact Int.pow_nonneg (by decide))]
 have : ((2 : Int) ^ k) = ((2 ^ k : Nat) : Int) := by push_cast; rfl
 rw [this]; rfl
theorem ti (d : TypeDesc) (a : Nat) (j : IntKind) : aa d .shl (qv a) (.int j 8) = some (qv (a * 256 % 2 ^ 64)) := by
 have e : aa d .shl (qv a) (.int j 8) = some (.int .u64 (IntKind.u64.wrap ((a : Int) * 2 ^ 8))) := rfl
 rw [e, show (a : Int) * 2 ^ 8 = ((a * 256 : Nat) : Int) by omega, lq]
theorem vq (d : TypeDesc) {a b : Nat} (ha : a < 2 ^ 64) (hb : b < 256) (hz : a % 256 = 0) : aa d .or (qv a) (qv b) = some (qv (a + b)) := by
 have : aa d .or (qv a) (qv b) = some (.int .u64 (IntKind.u64.wrap ((BitVec.ofInt 64 (a : Int)) ||| (BitVec.ofInt 64 (b : Int))).toNat)) := rfl
 rw [this, BitVec.toNat_or, aN 64 a ha, aN 64 b (by omega)]
 have e : a ||| b = a + b := by
  have := Nat.two_pow_add_eq_or_of_lt (i := 8) (b := b) (by omega) (a / 256)
  have h2 : 2 ^ 8 * (a / 256) = a := by omega
  rw [h2] at this
  exact this.symm
 rw [e, jC (by omega)]
theorem ta (d : TypeDesc) {a : Nat} (ha : a < 2 ^ 64) : aa d .andNot (qv a) (.int .u64 9223372036854775808) = some (qv (a % 2 ^ 63)) := by
 have : aa d .andNot (qv a) (.int .u64 9223372036854775808) = some (.int .u64 (IntKind.u64.wrap ((BitVec.ofInt 64 (a : Int)) &&& ~~~ (BitVec.ofInt 64 ((2 ^ 63 : Nat) : Int))).toNat)) := rfl
 rw [this, BitVec.toNat_and, BitVec.toNat_not, aN 64 a ha, aN 64 (2 ^ 63) (by omega)]
 have e : a &&& (2 ^ 64 - 1 - 2 ^ 63) = a % 2 ^ 63 := by
  have : 2 ^ 64 - 1 - 2 ^ 63 = 2 ^ 63 - 1 := by omega
  rw [this]; exact Nat.and_two_pow_sub_one_eq_mod a 63
 rw [e, jC (by omega)]
theorem sL (d : TypeDesc) {a : Nat} (ha : a < 2 ^ 32) : aa d .quo (uv a) (.int .u32 2) = some (uv (a / 2)) := by
 rw [mW, if_neg (by omega)]
 have : (a : Int).tdiv 2 = ((a / 2 : Nat) : Int) := by rw [Int.tdiv_eq_ediv_of_nonneg (by omega)]; rfl
 rw [this, eu (by omega)]
theorem sB (d : TypeDesc) (a : Nat) : aa d .rem (uv a) (.int .u32 2) = some (uv (a % 2)) := by
 rw [jN, if_neg (by omega)]
 have : (a : Int).tmod 2 = ((a % 2 : Nat) : Int) := by rw [Int.tmod_eq_emod_of_nonneg (by omega)]; rfl
 rw [this]
theorem qF : ∀ (k n i : Nat), i < k → (beN k n)[i]? = some (UInt8.ofNat (n / 256 ^ (k - 1 - i) % 256))
 | 0, _, _, h => by omega
 | k + 1, n, i, h => by
  rw [beN]
  by_cases hi : i < k
  ·rw [List.getElem?_append_left (by rw [aw]; exact hi), qF k _ i hi]
   congr 3
   rw [Nat.div_div_eq_div_mul, ← Nat.pow_succ']
   congr 2
   omega
  ·obtain rfl : i = k := by omega
   rw [List.getElem?_append_right (by rw [aw]; exact Nat.le_refl _), aw]
   simp
def fg (n w : Int) : Bs := bif decide (w < 1) || decide (8 < w) || decide (n < 0) then [] else beN w.toNat n.toNat
theorem bB {n w : Nat} (h1 : 1 ≤ w) (h8 : w ≤ 8) : fg (n : Int) (w : Int) = beN w n := by
 unfold fg
 rw [show (decide ((w : Int) < 1) || decide (8 < (w : Int)) || decide ((n : Int) < 0)) = false by simp; omega]
 simp
def sd (l : Bs) : Nat := l.foldl (fun n b => (n * 256 + b.toNat) % 2 ^ 64) 0
theorem py (l : Bs) : sd l = ofB l % 2 ^ 64 := by
 have key : ∀ (l : Bs) (a b : Nat), a = b % 2 ^ 64 → l.foldl (fun n b => (n * 256 + b.toNat) % 2 ^ 64) a = l.foldl (fun n b => n * 256 + b.toNat) b % 2 ^ 64 := by
  intro l
  induction l with
  | nil => intro a b h; exact h
  | cons x l ih =>
   intro a b h
   refine ih _ _ ?_
   show (a * 256 + x.toNat) % 2 ^ 64 = (b * 256 + x.toNat) % 2 ^ 64
   omega
 exact key l 0 0 (by simp)
def ofN (l : Bs) : Nat := ofB l % 2 ^ 63
theorem bT {l : Bs} (h : l.length ≤ 7) : ofN l = ofB l := by
 have := ij l.length l rfl
 have h2 : 256 ^ l.length ≤ 256 ^ 7 := Nat.pow_le_pow_right (by omega) h
 unfold ofN
 exact Nat.mod_eq_of_lt (by omega)
def rdN (most : Int) : Nat → Nat → Nat → Bs → Int × Bs × Int
 | 0, _, _, _ => (0, [], 11)
 | _ + 1, _, _, [] => (0, [], 10)
 | f + 1, k, n, b :: t =>
  let n' := n + (b.toNat % 128) * 128 ^ k
  bif decide (b = 0 ∧ 0 < k) then (0, [], 11)
  else bif decide (128 ≤ b.toNat) then rdN most f (k + 1) n' t
  else bif decide (max most 0 < (n' : Int)) then (0, [], 11)
  else (n', t, 0)
def mj (most : Int) (s : Bs) (e : Int) : Int × Bs × Int := bif decide (e = 0) then rdN most 9 0 0 s else (0, s, e)
def uC (s : Bs) (e : Int) : Int := bif decide (e = 0) && decide (0 < s.length) then 12 else e
def fp (n : Nat) : Bs := if 127 < n then UInt8.ofNat (n % 128 + 128) :: fp (n / 128) else [UInt8.ofNat n]
termination_by n
decreasing_by omega
theorem bl {n : Nat} (h : n ≤ 127) : fp n = [UInt8.ofNat n] := by rw [fp, if_neg (by omega)]
theorem dg {n : Nat} (h : 127 < n) : fp n = UInt8.ofNat (n % 128 + 128) :: fp (n / 128) := by rw [fp, if_pos h]
theorem mO : ∀ (f n : Nat), n < 128 ^ f → (fp n).length ≤ max f 1
 | 0, n, h => by rw [bl (by omega)]; simp
 | f + 1, n, h => by
  by_cases hn : 127 < n
  ·rw [dg hn, List.length_cons]
   have := mO f (n / 128) (by rw [Nat.div_lt_iff_lt_mul (by omega)]; rw [Nat.pow_succ] at h; exact h)
   have hf : f ≠ 0 := by rintro rfl; simp at h; omega
   omega
  ·rw [bl (by omega)]; simp
theorem pT {n : Nat} (h : n ≤ 9223372036854775807) : 1 ≤ (fp n).length ∧ (fp n).length ≤ 9 := by
 have := mO 9 n (by omega)
 refine ⟨?_, by omega⟩
 by_cases hn : 127 < n
 ·rw [dg hn]; simp
 ·rw [bl (by omega)]; simp
theorem de {n : Nat} (h : n < 256) : (UInt8.ofNat n).toNat = n := by simp [Nat.mod_eq_of_lt h]
theorem po (most : Int) : ∀ (f k n m : Nat) (t : Bs), n < 128 ^ f → 0 < f → (0 < k → 0 < n) → (m + n * 128 ^ k : Nat) ≤ max most 0 → rdN most f k m (fp n ++ t) = (((m + n * 128 ^ k : Nat) : Int), t, 0)
 | 0, k, n, m, t, h, h0, hk, hm => by omega
 | f + 1, k, n, m, t, h, h0, hk, hm => by
  by_cases hn : 127 < n
  ·rw [dg hn, List.cons_append, rdN]
   have e1 : (UInt8.ofNat (n % 128 + 128)).toNat = n % 128 + 128 := de (by omega)
   have hne : decide (UInt8.ofNat (n % 128 + 128) = 0 ∧ 0 < k) = false := by
    rw [decide_eq_false_iff_not]
    rintro ⟨h, _⟩
    have := congrArg UInt8.toNat h
    rw [e1] at this; simp at this
   simp only [e1, hne, cond_false, show decide (128 ≤ n % 128 + 128) = true by simp, cond_true, Nat.add_mod_right, Nat.mod_mod]
   have hd : n / 128 < 128 ^ f := by rw [Nat.div_lt_iff_lt_mul (by omega)]; rw [Nat.pow_succ] at h; exact h
   have hf : 0 < f := by
    rcases Nat.eq_zero_or_pos f with rfl | hf
    ·simp at h; omega
    ·exact hf
   have key : m + n % 128 * 128 ^ k + n / 128 * 128 ^ (k + 1) = m + n * 128 ^ k := by
    have hdm := Nat.div_add_mod n 128
    calc m + n % 128 * 128 ^ k + n / 128 * 128 ^ (k + 1) = m + (128 * (n / 128) + n % 128) * 128 ^ k := by rw [Nat.pow_succ, Nat.add_mul]; simp only [Nat.mul_assoc, Nat.mul_comm, Nat.mul_left_comm]; omega
     _ = m + n * 128 ^ k := by rw [hdm]
   have := po most f (k + 1) (n / 128) (m + n % 128 * 128 ^ k) t hd hf (fun _ => by omega) (by rw [key]; exact hm)
   rw [this, key]
  ·rw [bl (by omega), List.cons_append, List.nil_append, rdN]
   have e1 : (UInt8.ofNat n).toNat = n := de (by omega)
   have hne : decide (UInt8.ofNat n = 0 ∧ 0 < k) = false := by
    rw [decide_eq_false_iff_not]
    rintro ⟨h, h2⟩
    have := congrArg UInt8.toNat h
    rw [e1] at this
    have := hk h2
    simp_all
   have e2 : n % 128 = n := Nat.mod_eq_of_lt (by omega)
   have e3 : decide (max most 0 < ((m + n * 128 ^ k : Nat) : Int)) = false := by rw [decide_eq_false_iff_not]; omega
   simp only [e1, hne, cond_false, show decide (128 ≤ n) = false by rw [decide_eq_false_iff_not]; omega, e2, e3]
theorem sx (most : Int) : ∀ (f k n : Nat) (s : Bs), 0 ≤ (rdN most f k n s).1 ∧ (rdN most f k n s).1 ≤ max most 0 ∧ (rdN most f k n s).2.1.length ≤ s.length
 | 0, k, n, s => by simp [rdN]; omega
 | f + 1, k, n, [] => by simp [rdN]; omega
 | f + 1, k, n, b :: t => by
  rw [rdN]
  cases h1 : decide (b = 0 ∧ 0 < k) with
  | true => simp only [cond_true]; simp; omega
  | false =>
   simp only [cond_false]
   cases h2 : decide (128 ≤ b.toNat) with
   | true =>
    simp only [cond_true]
    have := sx most f (k + 1) (n + b.toNat % 128 * 128 ^ k) t
    refine ⟨this.1, this.2.1, by simp; omega⟩
   | false =>
    simp only [cond_false]
    cases h3 : decide (max most 0 < ((n + b.toNat % 128 * 128 ^ k : Nat) : Int)) with
    | true => simp only [cond_true]; simp; omega
    | false =>
     simp only [cond_false]
     rw [decide_eq_false_iff_not] at h3
     refine ⟨by omega, by omega, by simp⟩
theorem qh {n c k : Nat} (h : n < 2 ^ k) : n ||| (c * 2 ^ k) = n + c * 2 ^ k := by
 have := Nat.two_pow_add_eq_or_of_lt h c
 rw [Nat.or_comm, Nat.mul_comm c, ← this]; omega
theorem uK (n : Nat) : n &&& 127 = n % 128 := Nat.and_two_pow_sub_one_eq_mod n 7
theorem wF {n : Nat} (h : n < 256) : n ||| 128 = n % 128 + 128 := by
 have h1 : n = 128 * (n / 128) + n % 128 := (Nat.div_add_mod n 128).symm
 have h2 : n / 128 = 0 ∨ n / 128 = 1 := by omega
 rcases h2 with h2 | h2
 ·have h3 : n < 2 ^ 7 := by omega
  have := qh (c := 1) h3
  simp at this
  rw [this]; omega
 ·have h4 := qh (n := n % 128) (c := 1) (k := 7) (by omega)
  simp at h4
  have h5 : n = n % 128 ||| 128 := by rw [h4]; omega
  rw [h5, Nat.or_assoc, Nat.or_self, ← h5]; omega
theorem dy {s : Bs} {k : Nat} {b : UInt8} (h : s[k]? = some b) (i : IntKind) : ixS (stv s) (.int i k) = some (.int .u8 b.toNat) := by
 have hl := (List.getElem?_eq_some_iff.1 h).1
 have hk : k < (str s).size := by rw [aj]; exact hl
 have h1 : (str s)[k]? = some b := by
  rw [getElem?_pos (str s) k hk]
  have h2 : (str s)[k] = s[k] := rfl
  rw [h2]
  rw [List.getElem?_eq_getElem hl] at h; exact h
 simp [ixS, h1]
theorem tF (a k : Nat) (h : a * 2 ^ k ≤ 9223372036854775807) (hk : k ≤ 64) (d : TypeDesc) (j : IntKind) : aa d .shl (iv a) (.int j k) = some (iv ((a * 2 ^ k : Nat) : Int)) := by
 have h0 : ¬ ((k : Int) < 0) := by omega
 have e : aa d .shl (iv a) (.int j k) = some (iv (IntKind.i64.wrap ((a : Int) * 2 ^ (min (k : Int).toNat IntKind.i64.bits)))) := by
  rw [qT]; unfold shV; rw [if_neg h0]
 rw [e]
 have e2 : min (k : Int).toNat IntKind.i64.bits = k := by show min (k : Int).toNat 64 = k; omega
 rw [e2]
 have e3 : (a : Int) * 2 ^ k = ((a * 2 ^ k : Nat) : Int) := by push_cast; rfl
 rw [e3, bH h]
theorem pY (a k : Nat) (hk : k ≤ 64) (d : TypeDesc) (j : IntKind) : aa d .shr (iv a) (.int j k) = some (iv ((a / 2 ^ k : Nat) : Int)) := by
 have h0 : ¬ ((k : Int) < 0) := by omega
 have e : aa d .shr (iv a) (.int j k) = some (iv ((a : Int).fdiv (2 ^ (min (k : Int).toNat IntKind.i64.bits)))) := by
  rw [mN]; unfold shV; rw [if_neg h0]
 rw [e]
 have e2 : min (k : Int).toNat IntKind.i64.bits = k := by show min (k : Int).toNat 64 = k; omega
 rw [e2]
 congr 2
 rw [Int.fdiv_eq_ediv_of_nonneg _ (by exact Int.pow_nonneg (by decide))]
 have : ((2 : Int) ^ k) = ((2 ^ k : Nat) : Int) := by push_cast; rfl
 rw [this]; rfl
open Go.ChangeShapes Go.WideShapes Go.ChangeAt Go.RowKit
theorem trodAll_below {H : Type} {enc : TypeId × Value → H} {P : Program} (hl : laidOutB P = true) {W W' : World} (hb : Below W.heap.size W W') :
  ∀ {ts : List TypeId} {vs : List Value} {ds : List (DataW H)} {ps : List MemPlace}, (∀ t ∈ ts, P.readableRec t = true ∧ t < P.types.size) → DataW.TrodAll enc P W 0 (fun _ => true) true ts vs ds ps → (∀ x ∈ ps, x.block < W.heap.size) →
   DataW.TrodAll enc P W' 0 (fun b => decide (b < W.heap.size)) true ts vs ds ps
 | [], [], [], _, _, h, _ => h
 | t :: ts, v :: vs, d :: ds, ps, hr, h, hlt => by
  obtain ⟨p, q, h1, h2, rfl⟩ := h
  exact ⟨p, q, Below.trod hl (hr t (by simp)).1 (hr t (by simp)).2 h1 hb (fun x hx => hlt x (by simp [hx])), trodAll_below hl hb (fun t ht => hr t (by simp [ht])) h2 (fun x hx => hlt x (by simp [hx])), rfl⟩
 | [], _ :: _, _, _, _, h, _ => by cases h
 | [], [], _ :: _, _, _, h, _ => by cases h
 | _ :: _, [], _, _, _, h, _ => by cases h
 | _ :: _, _ :: _, [], _, _, h, _ => by cases h
theorem cl_true {P : Program} {g : FuncId} {args : Array Value} {w : World} (h : Cl P g args.toList w fun v w' => v = .bool true ∧ Fm (fun _ => False) w w') :
  Calls P g args w fun e w' => e = .returned (.bool true) ∧ Below w.heap.size w w' := by
 have := h.out
 unfold Cl0 at this
 simp only [Array.toArray_toList] at this
 refine this.mono fun e w' he => ?_
 cases e with
 | returned v => exact ⟨by rw [he.1], he.2.below⟩
 | panicked c => exact he.elim
 | outgrown => exact he.elim
structure LawIn {H : Type} (enc : TypeId × Value → H) (P : Program) (ts : List TypeId) (W : World) (args : List Value) (ds : List (DataW H)) (p : List MemPlace) : Prop where
 trod : DataW.TrodAll enc P W 0 (fun _ => true) true ts args ds p
 ok : ∃ base, ∀ (j : Nat) t v, ts[j]? = some t → args[j]? = some v → Value.okWide P W .any base t v
 sized : (DataW.weightsEach P ts ds).all (· ≤ reachBytes) = true
 lt : ∀ x ∈ p, x.block < W.heap.size
theorem law_lifted {H : Type} {enc : TypeId × Value → H} {C : Checked} {os : Os} {f : FuncId} {fn : Func} {s : ChangeSpec} {conds : List PathCond} {tb : TypeId} (own : ownKnob C.prog.godebug = none) (started : os.Started) (noInit : C.prog.inits.idxOf? f = none) (hfn : C.prog.funcs[f]? = some fn)
  (hlaid : laidOutB C.prog = true)
  (witness : ∃ (w : World) (tape : Tape) (i : Input), w.os = os ∧ (w.forCall tape i).Shaped C.prog ∧ i.vars = [] ∧ Input.okWide C.prog (w.forCall tape i) .any w.heap.size f i ∧
   s.pre6 enc C.prog fn conds false (w.forCall tape i).memory i.args ∧ ({} : Assume).holds C.prog (lone (Frame.enter C.prog f i.args .normal) [] (w.forCall tape i)))
  (hres : fn.resultTypes = #[tb]) (hbool : C.prog.underlying tb = some .bool) (hvars : s.vars = [])
  (hrow : ∀ t ∈ fn.params.toList, C.prog.readableRec t = true ∧ t < C.prog.types.size)
  (hs : ∀ ds : List (DataW H), ds.length = fn.params.toList.length → s.fn H ds = { results := [.lit (.bool true)], args := ds, vars := [] })
  (law : ∀ (W : World) (args : List Value) (ds : List (DataW H)) (p : List MemPlace), LawIn enc C.prog fn.params.toList W args ds p → Cl C.prog f args W fun v w' => v = .bool true ∧ Fm (fun _ => False) W w') :
  ReturnsInHanded {} C os f .any (s.pre6 enc C.prog fn conds false) (s.post enc C.prog fn false true false false) := by
 refine returnsInHanded_of_change_sized own started noInit hfn witness ?_
 intro W base args ds gs before hval hW hcnd hsz _
 have hW' := hW
 obtain ⟨p, q, hA, hV, rfl, hfz, hnd⟩ := hW
 rw [hvars] at hV
 obtain ⟨rfl, rfl⟩ := trodVars_none hV
 have hty : s.plain.varTypes C.prog = [] := by simp [DataSpec.varTypes, ChangeSpec.plain, hvars]
 simp only [hty, List.append_nil] at hsz
 have hlt : ∀ x ∈ p, x.block < W.heap.size := fun x hx => hW'.lt x (by simp [hx])
 have hlen := (trodAll_length hA).2
 refine (cl_true (law W args.toList ds p ⟨hA, ⟨base, fun j t v hj hv => hval j t v (by simpa using hj) (by simpa using hv)⟩, hsz, hlt⟩)).mono fun e W' ⟨he, hb⟩ => ?_
 subst he
 refine ⟨_, rfl, ds, [], p ++ [], [], p, [], hW', ?_, ?_, ?_, hb.frame _, fun h => by cases h⟩
 ·rw [List.append_nil, hs ds hlen, hres]
  exact trodAll_cons_mk (shut_bool hbool _) trodAll_mk0
 ·rw [List.append_nil, hs ds hlen]
  exact trodAll_below hlaid hb hrow hA hlt
 ·rw [List.append_nil, hs ds hlen, hvars]; trivial
structure Vw (P : Program) (t : TypeId) (α : Type) where
 rel : World → List Value → α → Prop
 keep : ∀ {w w' : World} {cs : List Value} {x : α}, rel w cs x → Fm (fun _ => False) w w' → rel w' cs x
 len : ∀ {w : World} {cs : List Value} {x : α}, rel w cs x → cs.length = P.cellsOf t
 opens : ∀ {H : Type} {enc : TypeId × Value → H} {w : World} {base : Nat} {spare : Nat → Bool} {held : Bool} {fuel : Nat} {cs : List Value} {y : DataW H × List MemPlace},
  DataW.trod enc P w base spare held fuel t cs = some y → (∀ n ∈ y.1.weights P t, n ≤ reachBytes) → ∃ x, rel w cs x
def wO {P : Program} {t : TypeId} (k : IntKind) (ht : P.underlying t = some (.int k)) (hc : P.cellsOf t = 1) : Vw P t Int where
 rel := fun _ cs x => cs = [.int k x] ∧ (Lit.int k x).wf = true
 keep := fun h _ => h
 len := fun h => by rw [h.1, hc]; rfl
 opens := fun h _ => by
  obtain ⟨n, h1, h2, h3⟩ := DataW.trod_int ht h
  exact ⟨n, h1, h3⟩
def wQ {P : Program} {t : TypeId} (ht : P.underlying t = some .bool) (hc : P.cellsOf t = 1) : Vw P t Bool where
 rel := fun _ cs x => cs = [.bool x]
 keep := fun h _ => h
 len := fun h => by rw [h, hc]; rfl
 opens := fun h _ => by
  obtain ⟨n, h1, h2⟩ := DataW.trod_bool ht h
  exact ⟨n, h1⟩
def wW {P : Program} {t : TypeId} (ht : P.underlying t = some .string) (hc : P.cellsOf t = 1) : Vw P t Bs where
 rel := fun _ cs x => cs = [stv x] ∧ x.length ≤ reachBytes
 keep := fun h _ => h
 len := fun h => by rw [h.1, hc]; rfl
 opens := fun h hw => by
  obtain ⟨s, h1, h2, _⟩ := DataW.trod_string ht h
  subst h2
  refine ⟨s.data.toList, by rw [h1, stv, rP], hw _ (by simp [DataW.weights])⟩
theorem dk {H : Type} {P : Program} {e : TypeId} {d : DataW H} {n : Nat} (hn : n ∈ d.weights P e) : ∀ {l : List (DataW H)}, d ∈ l → n ∈ DataW.weightsAll P e l
 | [], h => by cases h
 | x :: l, h => by
  rw [DataW.weightsAll, List.mem_append]
  rcases List.mem_cons.1 h with rfl | h
  ·exact .inl hn
  ·exact .inr (dk hn h)
structure SliceAs {P : Program} {e : TypeId} {α : Type} (A : Vw P e α) (w : World) (v : Value) (xs : List α) : Prop where
 ex : ∃ a cap, v = .slice a xs.length cap ∧ xs.length ≤ cap ∧ cap ≤ maxLen ∧ (a = none → xs.length = 0 ∧ cap = 0) ∧
  ∀ i x, xs[i]? = some x → ∃ ad cs', a = some ad ∧ A.rel w cs' x ∧ ∀ j, j < P.cellsOf e → w.cell? (ad.add (i * P.cellsOf e + j)) = cs'[j]?
 small : xs.length * P.bytesOf e ≤ reachBytes
theorem SliceAs.keep {P : Program} {e : TypeId} {α : Type} {A : Vw P e α} {w w' : World} {v : Value} {xs : List α} (h : SliceAs A w v xs) (hf : Fm (fun _ => False) w w') : SliceAs A w' v xs := by
 obtain ⟨⟨a, cap, h1, h2, h3, h4, h5⟩, hs⟩ := h
 refine ⟨⟨a, cap, h1, h2, h3, h4, fun i x hi => ?_⟩, hs⟩
 obtain ⟨ad, cs', g1, g2, g3⟩ := h5 i x hi
 refine ⟨ad, cs', g1, A.keep g2 hf, fun j hj => ?_⟩
 have := g3 j hj
 have hl := A.len g2
 rw [List.getElem?_eq_getElem (by omega)] at this ⊢
 exact hf.cell' this (fun e => e)
theorem SliceAs.lenV {P : Program} {e : TypeId} {α : Type} {A : Vw P e α} {w : World} {v : Value} {xs : List α} (h : SliceAs A w v xs) : lenV v = some (iv xs.length) := by
 obtain ⟨⟨a, cap, rfl, _⟩, _⟩ := h; rfl
theorem SliceAs.at {P : Program} {e : TypeId} {α : Type} {A : Vw P e α} {w : World} {v : Value} {xs : List α} (h : SliceAs A w v xs) {i : Nat} {x : α} (hi : xs[i]? = some x) {c : Nat} (hc : P.cellsOf e = c) (k : IntKind) :
  ∃ ad cs', ixV c v (.int k i) = some (.pointer (some ad)) ∧ A.rel w cs' x ∧ ∀ j, j < c → w.cell? (ad.add j) = cs'[j]? := by
 obtain ⟨⟨a, cap, rfl, h1, h2, h3, h4⟩, _⟩ := h
 obtain ⟨ad, cs', rfl, g2, g3⟩ := h4 i x hi
 have hlt := (List.getElem?_eq_some_iff.1 hi).1
 exact ⟨_, cs', bD hlt, g2, fun j hj => by rw [dT, ← hc]; exact g3 j (by rw [hc]; exact hj)⟩
theorem SliceAs.cells {P : Program} {e : TypeId} {α : Type} {A : Vw P e α} {w : World} {v : Value} {xs : List α} (h : SliceAs A w v xs) (hc : P.cellsOf e = 1) {f : α → Value} (hf : ∀ cs x, A.rel w cs x → cs = [f x]) : CellsAt w v xs.length 1 (xs.map f) := by
 obtain ⟨⟨a, cap, rfl, h1, h2, h3, h4⟩, _⟩ := h
 refine ⟨⟨a, cap, rfl, h1, h2, h3, fun j u hj => ?_⟩, by simp⟩
 rw [List.getElem?_map, Option.map_eq_some_iff] at hj
 obtain ⟨x, hx, rfl⟩ := hj
 obtain ⟨ad, cs', g1, g2, g3⟩ := h4 j x hx
 refine ⟨ad, g1, ?_⟩
 have := g3 0 (by omega)
 rw [hc, Nat.mul_one, Nat.add_zero, hf _ _ g2] at this
 exact this
def fZ {P : Program} {t e : TypeId} {α : Type} (ht : P.underlying t = some (.slice e)) (hc : P.cellsOf t = 1) (A : Vw P e α) : Vw P t (List α) where
 rel := fun w cs xs => ∃ v, cs = [v] ∧ SliceAs A w v xs
 keep := fun ⟨v, h1, h2⟩ hf => ⟨v, h1, h2.keep hf⟩
 len := fun ⟨v, h1, _⟩ => by rw [h1, hc]; rfl
 opens := fun {H enc w base spare held fuel cs y} h hw => by
  rcases Deep.open_slice ht h with ⟨rfl, rfl⟩ | ⟨a, len, cap, m, n, D, Pl, rfl, _, hl, hcap, hm, rfl, hx⟩
  ·exact ⟨[], _, rfl, ⟨none, 0, rfl, by simp, by simp [maxLen], fun _ => ⟨rfl, rfl⟩, fun i x hi => by simp at hi⟩, by simp⟩
  ·have hlm : len ≤ m := by rw [hm]; split <;> omega
   have hwt : ∀ i, i < len → ∀ q ∈ (D i).weights P e, q ≤ reachBytes := fun i hi q hq => hw q (by
    simp only [DataW.weights, ht, List.mem_cons, List.mem_append]
    exact .inr (.inl (dk hq (List.mem_map.2 ⟨i, by simpa using hi, rfl⟩))))
   have hsm : len * P.bytesOf e ≤ reachBytes := by
    have := hw ((((List.range len).map D).length + ((List.range (m - len)).map fun j => D (len + j)).length) * P.bytesOf e) (by simp [DataW.weights, ht])
    refine Nat.le_trans (Nat.mul_le_mul_right _ ?_) this
    simp
   have key : ∀ i, i < len → ∃ x : α × List Value, A.rel w x.2 x.1 ∧ ∀ j, j < P.cellsOf e → w.cell? (a.add (i * P.cellsOf e + j)) = x.2[j]? := by
    intro i hi
    obtain ⟨cs', h1, h2⟩ := hx i (by omega)
    obtain ⟨_, hlen, hat⟩ := World.cells?_some h1
    obtain ⟨x, hxr⟩ := A.opens h2 (hwt i hi)
    exact ⟨(x, cs'), hxr, fun j hj => by rw [← dT, hat j hj]⟩
   refine ⟨List.ofFn (n := len) (fun i => (Classical.choose (key i i.2)).1), _, rfl, ⟨some a, cap, by simp, by simpa using hl, hcap, fun e => by simp at e, fun i x hi => ?_⟩, by simpa using hsm⟩
   rw [List.getElem?_ofFn] at hi
   split at hi
   ·rename_i hi1
    simp only [Option.some.injEq] at hi
    subst hi
    have hk := Classical.choose_spec (key i hi1)
    exact ⟨a, _, rfl, hk.1, hk.2⟩
   ·cases hi
structure Fv (P : Program) (fs : List Field) (o : Nat) (α : Type) where
 c : Nat
 rel : World → List Value → α → Prop
 keep : ∀ {w w' : World} {cs : List Value} {x : α}, rel w cs x → Fm (fun _ => False) w w' → rel w' cs x
 len : ∀ {w : World} {cs : List Value} {x : α}, rel w cs x → cs.length = c
 opens : ∀ {H : Type} {enc : TypeId × Value → H} {w : World} {base : Nat} {spare : Nat → Bool} {held : Bool} {n : Nat} {cs0 : List Value} {ys : List (DataW H × List MemPlace)},
  (∀ (i : Nat) (f : Field), fs[i]? = some f → DataW.trod enc P w base spare held n f.type ((cs0.drop f.offset).take (P.cellsOf f.type)) = ys[i]?) → ys.length = fs.length →
  (∀ (i : Nat) (f : Field) (y : DataW H × List MemPlace), fs[i]? = some f → ys[i]? = some y → ∀ n ∈ y.1.weights P f.type, n ≤ reachBytes) → ∃ x, rel w ((cs0.drop o).take c) x
def kr {P : Program} {o : Nat} : Fv P [] o Unit where
 c := 0
 rel := fun _ cs _ => cs = []
 keep := fun h _ => h
 len := fun h => by rw [h]; rfl
 opens := fun _ _ _ => ⟨(), by simp⟩
def aL {P : Program} {f : Field} {fs : List Field} {o : Nat} {α β : Type} (hf : f.offset = o) (n : Nat) (hn : P.cellsOf f.type = n) (A : Vw P f.type α) (B : Fv P fs (o + n) β) : Fv P (f :: fs) o (α × β) where
 c := n + B.c
 rel := fun w cs x => ∃ c1 c2, cs = c1 ++ c2 ∧ A.rel w c1 x.1 ∧ B.rel w c2 x.2
 keep := fun ⟨c1, c2, h1, h2, h3⟩ hf => ⟨c1, c2, h1, A.keep h2 hf, B.keep h3 hf⟩
 len := fun ⟨c1, c2, h1, h2, h3⟩ => by rw [h1, List.length_append, A.len h2, B.len h3, hn]
 opens := fun {H enc w base spare held m cs0 ys} h hl hw => by
  have h0 := h 0 f rfl
  cases ys with
  | nil => simp at hl
  | cons y ys =>
   obtain ⟨x, hx⟩ := A.opens h0 (hw 0 f y rfl rfl)
   obtain ⟨x', hx'⟩ := B.opens (enc := enc) (w := w) (base := base) (spare := spare) (held := held) (n := m) (cs0 := cs0) (ys := ys) (fun i g hg => by have := h (i + 1) g (by simpa using hg); simpa using this) (by simpa using hl) (fun i g y' hg hy' => hw (i + 1) g y' (by simpa using hg) (by simpa using hy'))
   refine ⟨(x, x'), _, _, ?_, hx, hx'⟩
   rw [hf, hn]
   rw [List.take_add, List.drop_drop]
def dG {P : Program} {t : TypeId} {fs : Array Field} {α : Type} (ht : P.underlying t = some (.struct fs)) (F : Fv P fs.toList 0 α) (hc : P.cellsOf t = F.c) : Vw P t α where
 rel := F.rel
 keep := F.keep
 len := fun h => by rw [hc]; exact F.len h
 opens := fun {H enc w base spare held fuel cs y} h hw => by
  obtain ⟨xs, n, _, rfl, hl, hlen, hf⟩ := DataW.trod_struct ht h
  obtain ⟨x, hx⟩ := F.opens (enc := enc) (w := w) (base := base) (spare := spare) (held := held) (n := n) (cs0 := cs) (ys := xs) (fun i f hi => hf i f (by simpa using hi)) (by simpa using hlen) (fun i f y hi hy q hq => hw q (by
   simp only [DataW.weights, ht]
   exact DataW.weights_mem_each (j := i) (t := f.type) (d := y.1) (by rw [List.getElem?_map, hi]; rfl) (by rw [List.getElem?_map, hy]; rfl) q hq))
  refine ⟨x, ?_⟩
  have : (cs.drop 0).take F.c = cs := by rw [List.drop_zero, List.take_of_length_le (by omega)]
  rw [this] at hx; exact hx
theorem LawIn.arg {H : Type} {enc : TypeId × Value → H} {P : Program} {ts : List TypeId} {W : World} {args : List Value} {ds : List (DataW H)} {p : List MemPlace} (h : LawIn enc P ts W args ds p) {j : Nat} {t : TypeId} (ht : ts[j]? = some t) {α : Type} (A : Vw P t α) :
  ∃ v x base, args[j]? = some v ∧ A.rel W v.cells.toList x ∧ Value.okWide P W .any base t v := by
 obtain ⟨hA, ⟨base, hval⟩, hsz, -⟩ := h
 have hw : ∀ (j : Nat) (t : TypeId) (d : DataW H), ts[j]? = some t → ds[j]? = some d → ∀ n ∈ d.weights P t, n ≤ reachBytes := fun j t d h1 h2 n hn => by
  have := List.all_eq_true.1 hsz _ (DataW.weights_mem_each h1 h2 n hn)
  simpa using this
 have key : ∀ (ts : List TypeId) (vs : List Value) (ds : List (DataW H)) (p : List MemPlace), DataW.TrodAll enc P W 0 (fun _ => true) true ts vs ds p → ∀ (j : Nat) (t : TypeId), ts[j]? = some t → ∃ (v : Value) (d : DataW H) (q : List MemPlace), vs[j]? = some v ∧ ds[j]? = some d ∧ DataW.Trod enc P W 0 (fun _ => true) true t v d q := by
  intro ts
  induction ts with
  | nil => intro vs ds p _ j t ht; simp at ht
  | cons t0 ts ih =>
   intro vs ds p hA j t ht
   obtain ⟨v0, vs0, d0, ds0, p0, q0, rfl, rfl, rfl, h0, r0⟩ := trodAll_cons hA
   cases j with
   | zero => simp at ht; subst ht; exact ⟨v0, d0, p0, rfl, rfl, h0⟩
   | succ j => obtain ⟨v, d, q, h1, h2, h3⟩ := ih vs0 ds0 q0 r0 j t (by simpa using ht); exact ⟨v, d, q, by simpa using h1, by simpa using h2, h3⟩
 obtain ⟨v, d, q, h1, h2, fuel, h3⟩ := key ts args ds p hA j t ht
 obtain ⟨x, hx⟩ := A.opens h3 (hw j t d ht h2)
 exact ⟨v, x, base, h1, hx, hval j t v ht h1⟩
theorem LawIn.len {H : Type} {enc : TypeId × Value → H} {P : Program} {ts : List TypeId} {W : World} {args : List Value} {ds : List (DataW H)} {p : List MemPlace} (h : LawIn enc P ts W args ds p) : args.length = ts.length := (trodAll_length h.trod).1
theorem arg_int {P : Program} {W : World} {base : Nat} {t : TypeId} {k : IntKind} {ht : P.underlying t = some (.int k)} {hc : P.cellsOf t = 1} {v : Value} {x : Int} (h : (wO k ht hc).rel W v.cells.toList x) (hv : Value.okWide P W .any base t v) : v = .int k x ∧ (Lit.int k x).wf = true := by
 obtain ⟨n, rfl⟩ := okWide_int ht hv
 obtain ⟨h1, h2⟩ := h
 simp [Value.cells] at h1
 exact ⟨by rw [h1], h2⟩
theorem arg_bool {P : Program} {W : World} {base : Nat} {t : TypeId} {ht : P.underlying t = some .bool} {hc : P.cellsOf t = 1} {v : Value} {x : Bool} (h : (wQ ht hc).rel W v.cells.toList x) (hv : Value.okWide P W .any base t v) : v = .bool x := by
 obtain ⟨n, rfl⟩ := okWide_bool ht hv
 have h1 : (Value.bool n).cells.toList = [.bool x] := h
 simp [Value.cells] at h1
 rw [h1]
theorem arg_str {P : Program} {W : World} {base : Nat} {t : TypeId} {ht : P.underlying t = some .string} {hc : P.cellsOf t = 1} {v : Value} {x : Bs} (h : (wW ht hc).rel W v.cells.toList x) (hv : Value.okWide P W .any base t v) : v = stv x ∧ x.length ≤ reachBytes := by
 obtain ⟨n, rfl⟩ := okWide_string ht hv
 obtain ⟨h1, h2⟩ := h
 simp [Value.cells] at h1
 exact ⟨by rw [stv, h1], h2⟩
theorem arg_slice {P : Program} {W : World} {base : Nat} {t e : TypeId} {α : Type} {ht : P.underlying t = some (.slice e)} {hc : P.cellsOf t = 1} {A : Vw P e α} {v : Value} {x : List α} (h : (fZ ht hc A).rel W v.cells.toList x) (hv : Value.okWide P W .any base t v) : SliceAs A W v x := by
 obtain ⟨a, n, c, rfl⟩ := okWide_slice ht hv
 obtain ⟨u, h1, h2⟩ := h
 simp [Value.cells] at h1
 rw [h1]; exact h2
theorem arg_struct {P : Program} {W : World} {base : Nat} {t : TypeId} {fs : Array Field} {α : Type} {ht : P.underlying t = some (.struct fs)} {F : Fv P fs.toList 0 α} {hc : P.cellsOf t = F.c} {v : Value} {x : α} (h : (dG ht F hc).rel W v.cells.toList x) (hv : Value.okWide P W .any base t v) : ∃ cs, v = .agg cs ∧ F.rel W cs.toList x := by
 obtain ⟨cs, rfl, _⟩ := okWide_struct ht hv
 exact ⟨cs, rfl, h⟩
theorem kf {w : World} {base : Nat} {e t : TypeId} {sz : Nat} {v : Value} {n : Nat} {xs : List Value} {x : Nat} {cs : Array Value} {fz : Nat × Nat} (ho : w.ownsRow base e sz v n xs) (hx : w.heap[x]? = some (.cells cs t fz)) (hne : e ≠ t) : v.ownBlock ≠ some x := by
 intro hk
 rcases ho.2 with ⟨rfl, _⟩ | ⟨g, c, cur, rfl, _, hg, _⟩
 ·simp [Value.ownBlock] at hk
 simp [Value.ownBlock] at hk
 subst hk
 rw [hx] at hg
 cases hg
 exact hne rfl
theorem dD {P : Program} {t e : TypeId} {sz bytes : Nat} (E : ElemT P t e sz bytes) (hsz : 0 < sz) {w : World} {base : Nat} {v u : Value} {n m : Nat} {xs news : List Value} (h : w.ownsRow base e sz v n xs) (hu : CellsAt w u m sz news) (h1 : ∀ u ∈ news, u.oneCell' = true) (ty : TypeId)
  (h63 : n + m ≤ maxLen) (hbytes : (n + m) * bytes ≤ 140737488355328) (hbase : base ≤ w.heap.size) :
  ∃ v' w', (Builtin.append_ #[t, t] ty #[v, u]).run P w = .ok v' w' ∧ w'.ownsRow base e sz v' (n + m) (xs ++ news) ∧ Fm (fun b => v.ownBlock = some b) w w' := by
 obtain ⟨i, z, hi, hz, hs, hb, hzs⟩ := E.info
 obtain ⟨⟨a, c, rfl, hn1, hn2, h3, h4⟩, hl⟩ := hu
 cases a with
 | some ad =>
  obtain ⟨v', w', hr, ho, hg, hn⟩ := run_append_own (P := P) w base t ty e i z sz bytes E.sl hi hz hs hb hzs hsz v n xs h ad m c news hl (fun j x hj => by obtain ⟨ad', e, hc⟩ := h4 j x hj; cases e; exact hc) h1 h63 hbytes hbase
  exact ⟨v', w', hr, ho, Fm.grown (S := fun b => v.ownBlock = some b) hg (fun k hk _ => hk)⟩
 | none =>
  obtain ⟨rfl, rfl⟩ := h3 rfl
  rw [Nat.zero_mul] at hl
  obtain rfl := List.eq_nil_of_length_eq_zero hl
  exact ⟨v, w, run_append_owned_none (P := P) (w := w) base t ty e i sz E.sl hi v n xs h, by simpa using h, Fm.refl _ _⟩
def vOp {P : Program} {t e : TypeId} (ht : P.underlying t = some (.slice e)) (hc : P.cellsOf t = 1) : Vw P t Unit where
 rel := fun _ cs _ => ∃ a n c, cs = [.slice a n c]
 keep := fun h _ => h
 len := fun ⟨a, n, c, h⟩ => by rw [h, hc]; rfl
 opens := fun {H enc w base spare held fuel cs y} h hw => by
  rcases Deep.open_slice ht h with ⟨rfl, rfl⟩ | ⟨a, len, cap, m, n, D, Pl, rfl, _, hl, hcap, hm, rfl, hx⟩
  ·exact ⟨(), none, 0, 0, rfl⟩
  ·exact ⟨(), some a, len, cap, rfl⟩
theorem aZ {S : Nat → Prop} {w w' : World} {ad : Addr} {n : Nat} {x : Value} (h : aP w ad n = some x) (hf : Fm S w w') (hs : ¬ S ad.block) : aP w' ad n = some x := by
 have key : ∀ (n i : Nat) (l : List Value), aE w ad i n = some l → aE w' ad i n = some l := by
  intro n
  induction n with
  | zero => intro i l hl; simpa [aE] using hl
  | succ n ih =>
   intro i l hl
   simp only [aE] at hl ⊢
   cases hc : w.cell? (ad.add i) with
   | none => rw [hc] at hl; cases hl
   | some v =>
    rw [hc] at hl
    rw [hf.cell' hc (by rw [fj]; exact hs)]
    cases hr : aE w ad (i + 1) n with
    | none => rw [hr] at hl; cases hl
    | some l' =>
     rw [hr] at hl
     rw [ih _ _ hr]; exact hl
 unfold aP at h ⊢
 cases hc : aE w ad 0 n with
 | none => rw [hc] at h; cases h
 | some l => rw [hc] at h; rw [key _ _ _ hc]; exact h
theorem SliceAs.ld {P : Program} {e : TypeId} {α : Type} {A : Vw P e α} {w : World} {v : Value} {xs : List α} (h : SliceAs A w v xs) {i : Nat} {x : α} (hi : xs[i]? = some x) {c : Nat} (hc : P.cellsOf e = c) (k : IntKind) :
  ∃ ad cs', ixV c v (.int k i) = some (.pointer (some ad)) ∧ A.rel w cs' x ∧ aP w ad c = some (.agg cs'.toArray) ∧ ∀ j, j < c → w.cell? (ad.add j) = cs'[j]? := by
 obtain ⟨ad, cs', h1, h2, h3⟩ := h.at hi hc k
 have hlen : cs'.length = c := by rw [← hc]; exact A.len h2
 refine ⟨ad, cs', h1, h2, ?_, h3⟩
 have key : ∀ (n j : Nat), j + n ≤ c → aE w ad j n = some ((cs'.drop j).take n) := by
  intro n
  induction n with
  | zero => intro j hj; simp [aE]
  | succ n ih =>
   intro j hj
   have hlt : j < cs'.length := by omega
   have hcell := h3 j (by omega)
   rw [List.getElem?_eq_getElem hlt] at hcell
   simp only [aE, hcell, ih (j + 1) (by omega), Option.map_some]
   rw [List.drop_eq_getElem_cons hlt, List.take_succ_cons]
 unfold aP
 rw [key c 0 (by omega)]
 simp only [List.drop_zero, Option.map_some]
 rw [List.take_of_length_le (by omega)]
end Go.Al
namespace Go.Proofs.YthbngnlmgplijaaGreatDoor
open Go.Al Go.Proofs
abbrev pv (b : Nat) : Value := .pointer (some ⟨b, 0, none⟩)
theorem Fmf {a b c : World} (h : Fm (fun _ => False) a b) (k : Fm (fun _ => False) b c) : Fm (fun _ => False) a c := h.trans k (fun _ _ e => e) (fun _ _ e => e)
theorem Fm.own {S : Nat → Prop} {a b c : World} (h : Fm (fun _ => False) a b) (k : Fm S b c) (hS : ∀ x, S x → a.heap.size ≤ x) : Fm (fun _ => False) a c := h.trans k (fun _ _ e => e) (fun x hx e => by have := hS x e; omega)
abbrev In (n : Int) : Prop := -9223372036854775808 ≤ n ∧ n ≤ 9223372036854775807
theorem B38 : ByteT prog 123 5 9 := mV Tryz.underlying123 Tryz.underlying5 Tryz.underlying9 (by kernel_rfl)
theorem qQ {c : Nat} (hc : c < 2 ^ 32) : ∃ x y : Value, unV .neg (uv (c &&& 1)) = some x ∧ aa (TypeDesc.int .u32) .and (Value.int .u32 3988292384) x = some y ∧ aa (TypeDesc.int .u32) .xor (uv (c / 2)) y = some (uv (mH c)) := by
 rw [Nat.and_one_is_mod]
 unfold mH
 have h2 : c % 2 = 0 ∨ c % 2 = 1 := by omega
 rcases h2 with h2 | h2
 ·rw [h2]
  exact ⟨uv 0, uv 0, rfl, rfl, by rw [eJ _ (by omega) (by omega)]; rfl⟩
 ·rw [h2, if_pos rfl]
  exact ⟨uv 4294967295, uv 3988292384, rfl, rfl, by rw [eJ _ (by omega) (by omega)]⟩
theorem ia : ∀ (k c : Nat), ib (k + 1) c = mH (ib k c)
 | 0, c => rfl
 | k + 1, c => by rw [ib, ia k]; rfl
theorem mD (w : World) {c : Nat} (hc : c < 2 ^ 32) : Cl prog 147 [uv c] w fun r w' => r = uv (ib 8 c) ∧ w' = w := by
 refine c147 ?_; unfold T147
 refine ⟨fun vs w2 => ∃ i : Nat, vs = [uv (ib i c), iv i] ∧ i ≤ 8 ∧ w2 = w, fun vs _ => (8 - nth vs 1).toNat, ⟨0, rfl, by omega, rfl⟩, ?_⟩
 rintro _ w2 cv ivv ⟨i, hvs, hi, rfl⟩
 cases hvs
 have hl := hU i hc
 by_cases hlt : i < 8
 ·have e1 : decide ((i : Int) < 8) = true := by rw [decide_eq_true_eq]; omega
  have e2 : IntKind.i64.wrap ((i : Int) + 1) = ((i + 1 : Nat) : Int) := by rw [ab] <;> omega
  obtain ⟨x, y, h1, h2, h3⟩ := qQ hl
  have s1 : aa (TypeDesc.int .u32) .shr (uv (ib i c)) (Value.int .u64 1) = some (uv (ib i c / 2)) := qf _ (k := 1) (by omega) .u64 rfl
  have a1 : aa (TypeDesc.int .u32) .and (uv (ib i c)) (Value.int .u32 1) = some (uv (ib i c &&& 1)) := pl _ hl (b := 1) (by omega)
  simp only [RS, e1, s1, a1, h1, h2, h3, e2]
  exact ⟨⟨i + 1, by rw [ia], by omega, (by trivial)⟩, by simp only [bM]; omega⟩
 ·obtain rfl : i = 8 := by omega
  have e1 : decide (((8 : Nat) : Int) < 8) = false := by simp
  simp only [RS, e1]
  exact ⟨(by trivial), (by trivial)⟩
theorem lj {l : Bs} {i : Nat} {b : UInt8} (c : Nat) (h : l[i]? = some b) : qc c (l.take (i + 1)) = vH (qc c (l.take i)) b := by
 unfold qc
 rw [List.take_add_one, h, List.foldl_append]; rfl
theorem gD (w : World) (l : Bs) (hl : l.length ≤ 9223372036854775806) : Cl prog 80 [stv l] w fun r w' => r = uv (crc l) ∧ w' = w := by
 refine c80 ?_; unfold T80
 simp only [RS, aj]
 refine ⟨fun vs w2 => ∃ i : Nat, vs = [uv (qc 4294967295 (l.take i)), iv i] ∧ i ≤ l.length ∧ w2 = w, fun vs _ => (l.length - nth vs 1).toNat, ⟨0, rfl, by omega, rfl⟩, ?_⟩
 rintro _ w2 cv ivv ⟨i, hvs, hi, rfl⟩
 cases hvs
 have hc := jS (l.take i) (c := 4294967295) (by omega)
 by_cases hlt : i < l.length
 ·have e1 : decide ((i : Int) < (l.length : Int)) = true := by rw [decide_eq_true_eq]; omega
  have e2 : IntKind.i64.wrap ((i : Int) + 1) = ((i + 1 : Nat) : Int) := by rw [ab] <;> omega
  have hx : l[i]? = some l[i] := List.getElem?_eq_getElem hlt
  generalize l[i] = b at hx
  have hst := lj 4294967295 hx
  generalize qc 4294967295 (l.take i) = c at hc hst
  rw [nU] at hst
  have hb := b.toNat_lt
  have s1 : aa (TypeDesc.int .u32) .shr (uv c) (Value.int .u64 8) = some (uv (c / 256)) := qf _ (k := 8) (by omega) .u64 rfl
  have a1 : aa (TypeDesc.int .u32) .and (uv c) (Value.int .u32 255) = some (uv (c % 256)) := by
   have := pl (TypeDesc.int .u32) hc (b := 255) (by omega)
   rw [show c &&& 255 = c % 256 from Nat.and_two_pow_sub_one_eq_mod c 8] at this; exact this
  have q1 : IntKind.u32.wrap (b.toNat : Int) = (b.toNat : Int) := eu (by omega)
  have x1 := eJ (TypeDesc.int .u32) (a := c % 256) (b := b.toNat) (by omega) (by omega)
  have hx2 : c % 256 ^^^ b.toNat < 2 ^ 32 := Nat.xor_lt_two_pow (by omega) (by omega)
  simp only [RS, e1, s1, a1, dy hx, aV, q1, x1]
  refine (mD w2 hx2).mono ?_
  rintro _ _ ⟨rfl, rfl⟩
  have x2 := eJ (TypeDesc.int .u32) (a := c / 256) (b := ib 8 (c % 256 ^^^ b.toNat)) (by omega) (hU 8 hx2)
  simp only [RS, x2, e2]
  exact ⟨⟨i + 1, by rw [hst], by omega, (by trivial)⟩, by simp only [bM]; omega⟩
 ·have hie : i = l.length := by omega
  subst hie
  have e1 : decide (((l.length : Nat) : Int) < (l.length : Int)) = false := by simp
  rw [List.take_length] at hc ⊢
  simp only [RS, e1, tj hc]
  exact ⟨(by trivial), (by trivial)⟩
theorem fE (w : World) (l : Bs) (hl : l.length ≤ 9223372036854775806) : Cl prog 84 [stv l] w fun r w' => r = uv (crc l) ∧ w' = w := by
 refine c84 ?_; unfold T84
 refine ⟨fun vs w2 => ∃ i : Nat, vs = [uv (qc 4294967295 (l.take i)), iv i] ∧ i ≤ l.length ∧ w2 = w, fun vs _ => (l.length - nth vs 1).toNat, ⟨0, rfl, by omega, rfl⟩, ?_⟩
 rintro _ w2 cv ivv ⟨i, hvs, hi, rfl⟩
 cases hvs
 have hc := jS (l.take i) (c := 4294967295) (by omega)
 by_cases hlt : i < l.length
 ·have e1 : decide ((i : Int) < (l.length : Int)) = true := by rw [decide_eq_true_eq]; omega
  have e2 : IntKind.i64.wrap ((i : Int) + 1) = ((i + 1 : Nat) : Int) := by rw [ab] <;> omega
  have hx : l[i]? = some l[i] := List.getElem?_eq_getElem hlt
  generalize l[i] = b at hx
  have hst := lj 4294967295 hx
  generalize qc 4294967295 (l.take i) = c at hc hst
  have hb := b.toNat_lt
  have q1 : IntKind.u32.wrap (b.toNat : Int) = (b.toNat : Int) := eu (by omega)
  have x1 := eJ (TypeDesc.int .u32) (a := c) (b := b.toNat) (by omega) (by omega)
  have hx2 := mG hc b
  simp only [RS, aj, e1, dy hx, aV, q1, x1]
  refine ⟨fun vs w3 => ∃ j : Nat, vs = [uv (ib j (c ^^^ b.toNat)), iv j] ∧ j ≤ 8 ∧ w3 = w2, fun vs _ => (8 - nth vs 1).toNat, ⟨0, rfl, by omega, rfl⟩, ?_⟩
  rintro _ w3 cv jv ⟨j, hvs, hj, rfl⟩
  cases hvs
  have hl2 := hU j hx2
  by_cases hj8 : j < 8
  ·have f1 : decide ((j : Int) < 8) = true := by rw [decide_eq_true_eq]; omega
   have f2 : IntKind.i64.wrap ((j : Int) + 1) = ((j + 1 : Nat) : Int) := by rw [ab] <;> omega
   have hsn := ia j (c ^^^ b.toNat)
   generalize ib j (c ^^^ b.toNat) = d at hl2 hsn
   simp only [RS, f1]
   refine bG (fun vs w4 => vs = [uv (mH d)] ∧ w4 = w3) ?_ ?_
   ·rintro _ w4 ⟨rfl, rfl⟩ _
    refine ⟨_, rfl, ?_⟩
    simp only [RS, f2]
    exact ⟨⟨j + 1, by rw [hsn], by omega, (by trivial)⟩, by simp only [bM]; omega⟩
   ·intro kk hkk
    unfold mH at hkk
    have hd2 : d % 2 = 0 ∨ d % 2 = 1 := by omega
    simp only [RS, sB, sL _ hl2, aA]
    rcases hd2 with h2 | h2
    ·rw [if_neg (by omega), Nat.xor_zero] at hkk
     rw [show decide (((d % 2 : Nat) : Int) = 1) = false by rw [h2]; rfl]
     simp only [RS]
     exact hkk _ _ ⟨rfl, rfl⟩
    ·rw [if_pos h2] at hkk
     rw [show decide (((d % 2 : Nat) : Int) = 1) = true by rw [h2]; rfl]
     have x2 : aa (TypeDesc.int .u32) .xor (uv (d / 2)) (Value.int .u32 3988292384) = some (uv (d / 2 ^^^ 3988292384)) := eJ _ (b := 3988292384) (by omega) (by omega)
     simp only [RS, x2]
     exact hkk _ _ ⟨rfl, rfl⟩
  ·obtain rfl : j = 8 := by omega
   have f1 : decide (((8 : Nat) : Int) < 8) = false := by simp
   simp only [RS, f1, e2]
   exact ⟨⟨i + 1, by rw [hst]; rfl, by omega, (by trivial)⟩, by simp only [bM]; omega⟩
 ·have hie : i = l.length := by omega
  subst hie
  have e1 : decide (((l.length : Nat) : Int) < (l.length : Int)) = false := by simp
  rw [List.take_length] at hc ⊢
  have x2 : aa (TypeDesc.int .u32) .xor (uv (qc 4294967295 l)) (Value.int .u32 4294967295) = some (uv (qc 4294967295 l ^^^ 4294967295)) := eJ _ hc (b := 4294967295) (by omega)
  simp only [RS, aj, e1, x2]
  exact ⟨(by trivial), (by trivial)⟩
theorem la (l : Bs) {i : Nat} {b : UInt8} (h : l[i]? = some b) (n : Nat) (hn : i < n) : (l.take i ++ List.replicate (n - i) (0 : UInt8)).set i b = l.take (i + 1) ++ List.replicate (n - (i + 1)) (0 : UInt8) := by
 have hl := (List.getElem?_eq_some_iff.1 h).1
 rw [List.set_append_right _ _ (by rw [List.length_take]; omega), List.length_take, Nat.min_eq_left (by omega), Nat.sub_self]
 rw [show n - i = (n - (i + 1)) + 1 by omega, List.replicate_succ, List.set_cons_zero, List.take_add_one, h]
 simp
theorem bV (w : World) {n : Int} (hn : In n) (k : Int) : Cl prog 115 [iv n, iv k] w fun r w' => r = stv (fg n k) ∧ Fm (fun _ => False) w w' := by
 refine c115 ?_; unfold T115
 unfold fg
 cases h1 : decide (k < 1) with
 | true =>
  simp only [RS, h1, Bool.true_or, cond_true]
  exact ⟨(by trivial), Fm.refl _ _⟩
 | false =>
 cases h2 : decide (8 < k) with
 | true =>
  simp only [RS, h1, h2, Bool.true_or, Bool.or_true, cond_true]
  exact ⟨(by trivial), Fm.refl _ _⟩
 | false =>
 cases h3 : decide (n < 0) with
 | true =>
  simp only [RS, h1, h2, h3, Bool.true_or, Bool.or_true, cond_true]
  exact ⟨(by trivial), Fm.refl _ _⟩
 | false =>
 rw [decide_eq_false_iff_not] at h1 h2 h3
 obtain ⟨x, rfl⟩ := Int.eq_ofNat_of_zero_le (show 0 ≤ n by omega)
 obtain ⟨m, rfl⟩ := Int.eq_ofNat_of_zero_le (show 0 ≤ k by omega)
 have g1 : decide ((Int.ofNat m) < 1) = false := by rw [decide_eq_false_iff_not]; exact h1
 have g2 : decide (8 < (Int.ofNat m)) = false := by rw [decide_eq_false_iff_not]; exact h2
 have g3 : decide ((Int.ofNat x) < 0) = false := by rw [decide_eq_false_iff_not]; exact h3
 have hm : 1 ≤ m ∧ m ≤ 8 := by omega
 have hx : x ≤ 9223372036854775807 := by have := hn.2; omega
 have g1' : decide ((m : Int) < 1) = false := g1
 have g2' : decide (8 < (m : Int)) = false := g2
 have g3' : decide ((x : Int) < 0) = false := g3
 simp only [RS, g1', g2', g3', Bool.or_false, cond_false, Int.toNat_natCast]
 refine af (BRow.make B38 w m (by omega)) ?_
 have hb1 := az w (.cells (bc (List.replicate m 0)).toArray 5)
 have hf1 := Fm.alloc (fun _ => False) w (.cells (bc (List.replicate m 0)).toArray 5)
 have hg := Nat.le_refl w.heap.size
 generalize hge : w.heap.size = g at hb1
 generalize w.alloc (.cells (bc (List.replicate m 0)).toArray 5) = w1 at hb1 hf1
 replace hb1 : BRow w1 g 5 (List.replicate m 0) := hb1
 simp only [RS]
 refine ⟨fun vs w2 => ∃ i : Nat, vs = [iv i] ∧ i ≤ m ∧ BRow w2 g 5 ((beN m x).take i ++ List.replicate (m - i) 0) ∧ Fm (fun _ => False) w w2, fun vs _ => (m - nth vs 0).toNat, ⟨0, rfl, by omega, by simpa using hb1, hf1⟩, ?_⟩
 rintro _ w2 ivv ⟨i, hvs, hi, hb2, hf2⟩
 cases hvs
 by_cases hlt : i < m
 ·have e1 : decide ((i : Int) < (m : Int)) = true := by rw [decide_eq_true_eq]; omega
  have e2 : IntKind.i64.wrap ((i : Int) + 1) = ((i + 1 : Nat) : Int) := by rw [ab] <;> omega
  have e3 : IntKind.i64.wrap ((m : Int) - 1) = ((m - 1 : Nat) : Int) := by rw [ab] <;> omega
  have e4 : IntKind.i64.wrap (((m - 1 : Nat) : Int) - i) = ((m - 1 - i : Nat) : Int) := by rw [ab] <;> omega
  have e5 : IntKind.i64.wrap (8 * ((m - 1 - i : Nat) : Int)) = ((8 * (m - 1 - i) : Nat) : Int) := by rw [ab] <;> omega
  have e6 := pY x (8 * (m - 1 - i)) (by omega) (TypeDesc.int .i64) .i64
  have hget := qF m x i hlt
  have hpw : x / 2 ^ (8 * (m - 1 - i)) = x / 256 ^ (m - 1 - i) := by rw [Nat.pow_mul]
  have hval : IntKind.u8.wrap ((x / 2 ^ (8 * (m - 1 - i)) : Nat) : Int) = (((UInt8.ofNat (x / 256 ^ (m - 1 - i) % 256)).toNat : Nat) : Int) := by
   rw [gM, dQ (by omega), hpw]
  generalize UInt8.ofNat (x / 256 ^ (m - 1 - i) % 256) = b at hget hval
  have hix : ixV 1 (.slice (some ⟨g, 0, none⟩) m m) (iv i) = some (.pointer (some ⟨g, i, none⟩)) := by rw [bD hlt, bv]; simp
  simp only [RS, e1, e3, e4, e5, e6, aV, hval, hix]
  refine BRow.put hb2 (b := b) (by simp [aw]; omega) ?_
  intro w3 hb3 hs3 hf3
  rw [la _ hget m hlt] at hb3
  simp only [RS, e2]
  exact ⟨⟨i + 1, rfl, by omega, hb3, Fm.own hf2 hf3 (by rintro y rfl; omega)⟩, by simp only [bw]; omega⟩
 ·obtain rfl : i = m := by omega
  have e1 : decide ((i : Int) < (i : Int)) = false := by simp
  have hfull : (beN i x).take i ++ List.replicate (i - i) (0 : UInt8) = beN i x := by rw [Nat.sub_self, List.take_of_length_le (by rw [aw]; exact Nat.le_refl _)]; simp
  rw [hfull] at hb2
  simp only [RS, e1]
  refine af (BRow.conv B38 hb2 (o := 0) (n := i) (by rw [aw]; omega) i) ?_
  refine ⟨?_, hf2⟩
  rw [List.drop_zero, List.take_of_length_le (by rw [aw]; exact Nat.le_refl _)]
theorem bk (w : World) {n : Int} (hn : In n) (k : Int) : Cl prog 192 [iv n, iv k] w fun r w' => r = stv (fg n k) ∧ Fm (fun _ => False) w w' := by
 refine c192 ?_; unfold T192
 unfold fg
 cases h1 : decide (k < 1) with
 | true =>
  simp only [RS, h1, Bool.true_or, cond_true]
  exact ⟨(by trivial), Fm.refl _ _⟩
 | false =>
 cases h2 : decide (8 < k) with
 | true =>
  simp only [RS, h1, h2, Bool.true_or, Bool.or_true, cond_true]
  exact ⟨(by trivial), Fm.refl _ _⟩
 | false =>
 cases h3 : decide (n < 0) with
 | true =>
  simp only [RS, h1, h2, h3, Bool.true_or, Bool.or_true, cond_true]
  exact ⟨(by trivial), Fm.refl _ _⟩
 | false =>
 rw [decide_eq_false_iff_not] at h1 h2 h3
 obtain ⟨x, rfl⟩ := Int.eq_ofNat_of_zero_le (show 0 ≤ n by omega)
 obtain ⟨m, rfl⟩ := Int.eq_ofNat_of_zero_le (show 0 ≤ k by omega)
 have g1' : decide ((m : Int) < 1) = false := by rw [decide_eq_false_iff_not]; exact h1
 have g2' : decide (8 < (m : Int)) = false := by rw [decide_eq_false_iff_not]; exact h2
 have g3' : decide ((x : Int) < 0) = false := by rw [decide_eq_false_iff_not]; exact h3
 have hm : 1 ≤ m ∧ m ≤ 8 := by omega
 have hx : x ≤ 9223372036854775807 := by have := hn.2; omega
 have e0 : IntKind.i64.wrap ((m : Int) - 1) = (m : Int) - 1 := by rw [ab]; omega
 simp only [RS, g1', g2', g3', Bool.or_false, cond_false, Int.toNat_natCast]
 refine af (BRow.make B38 w m (by omega)) ?_
 have hb1 := az w (.cells (bc (List.replicate m 0)).toArray 5)
 have hf1 := Fm.alloc (fun _ => False) w (.cells (bc (List.replicate m 0)).toArray 5)
 have hg := Nat.le_refl w.heap.size
 generalize hge : w.heap.size = g at hb1
 generalize w.alloc (.cells (bc (List.replicate m 0)).toArray 5) = w1 at hb1 hf1
 replace hb1 : BRow w1 g 5 (List.replicate m 0) := hb1
 simp only [RS, e0]
 refine ⟨fun vs w2 => ∃ i : Nat, vs = [iv (x / 256 ^ (m - i) : Nat), iv ((i : Int) - 1)] ∧ i ≤ m ∧ BRow w2 g 5 (List.replicate i 0 ++ beN (m - i) x) ∧ Fm (fun _ => False) w w2, fun vs _ => (nth vs 1 + 1).toNat, ⟨m, by rw [Nat.sub_self]; simp, by omega, by rw [Nat.sub_self]; simpa [beN] using hb1, hf1⟩, ?_⟩
 rintro _ w2 nv ivv ⟨i, hvs, hi, hb2, hf2⟩
 cases hvs
 by_cases hlt : 0 < i
 ·have e1 : decide ((0 : Int) ≤ (i : Int) - 1) = true := by rw [decide_eq_true_eq]; omega
  have e2 : IntKind.i64.wrap ((i : Int) - 1 - 1) = ((i - 1 : Nat) : Int) - 1 := by rw [ab] <;> omega
  have hpos : x / 256 ^ (m - i) ≤ x := Nat.div_le_self _ _
  have e3 := bC (TypeDesc.int .i64) (n := x / 256 ^ (m - i)) (m := 256) (by omega) (by omega) (b := 256) rfl
  have e4 := cu (TypeDesc.int .i64) (n := x / 256 ^ (m - i)) (m := 256) (by omega) (by omega) (b := 256) rfl
  have hd : x / 256 ^ (m - i) / 256 = x / 256 ^ (m - (i - 1)) := by
   rw [Nat.div_div_eq_div_mul, ← Nat.pow_succ]
   congr 2; omega
  have hcast : ((i : Int) - 1) = ((i - 1 : Nat) : Int) := by omega
  have hix : ixV 1 (.slice (some ⟨g, 0, none⟩) m m) (iv ((i : Int) - 1)) = some (.pointer (some ⟨g, i - 1, none⟩)) := by
   rw [hcast]
   have := bD (sz := 1) (a := ⟨g, 0, none⟩) (len := m) (cap := m) (k := .i64) (i := i - 1) (by omega)
   rw [this, bv]; simp
  have hval : IntKind.u8.wrap ((x / 256 ^ (m - i) % 256 : Nat) : Int) = (((UInt8.ofNat (x / 256 ^ (m - i) % 256)).toNat : Nat) : Int) := by
   rw [gM, dQ (by omega), Nat.mod_mod]
  have hbe : beN (m - (i - 1)) x = UInt8.ofNat (x / 256 ^ (m - i) % 256) :: beN (m - i) x := by
   have key : ∀ (k n : Nat), beN (k + 1) n = UInt8.ofNat (n / 256 ^ k % 256) :: beN k n := by
    intro k
    induction k with
    | zero => intro n; simp [beN]
    | succ k ih =>
     intro n
     rw [beN, ih, List.cons_append, beN]
     congr 3
     rw [Nat.div_div_eq_div_mul, ← Nat.pow_succ']
   rw [show m - (i - 1) = (m - i) + 1 by omega]; exact key _ _
  simp only [RS, e1, e3, aV, hval, hix]
  refine BRow.put hb2 (by simp [aw]; omega) ?_
  intro w3 hb3 hs3 hf3
  have hset : (List.replicate i (0 : UInt8) ++ beN (m - i) x).set (i - 1) (UInt8.ofNat (x / 256 ^ (m - i) % 256)) = List.replicate (i - 1) 0 ++ beN (m - (i - 1)) x := by
   rw [hbe]
   have : List.replicate i (0 : UInt8) = List.replicate (i - 1) 0 ++ [0] := by
    rw [show i = (i - 1) + 1 by omega, List.replicate_succ']; simp
   rw [this, List.append_assoc, List.set_append_right _ _ (by simp)]
   simp
  rw [hset] at hb3
  simp only [RS, e4, hd, e2]
  exact ⟨⟨i - 1, rfl, by omega, hb3, Fm.own hf2 hf3 (by rintro y rfl; omega)⟩, by simp only [bM]; omega⟩
 ·obtain rfl : i = 0 := by omega
  have e1 : decide ((0 : Int) ≤ ((0 : Nat) : Int) - 1) = false := by decide
  rw [Nat.sub_zero] at hb2
  replace hb2 : BRow w2 g 5 (beN m x) := by simpa using hb2
  simp only [RS, e1]
  refine af (BRow.conv B38 hb2 (o := 0) (n := m) (by rw [aw]; omega) m) ?_
  refine ⟨?_, hf2⟩
  rw [List.drop_zero, List.take_of_length_le (by rw [aw]; exact Nat.le_refl _)]
theorem eN {α β : Type} (f : β → α → β) (b : β) {l : List α} {i : Nat} {x : α} (hi : l[i]? = some x) : (l.take (i + 1)).foldl f b = f ((l.take i).foldl f b) x := by
 rw [List.take_add_one, hi, List.foldl_append]; rfl
theorem dF (w : World) (l : Bs) (hl : l.length ≤ 9223372036854775806) : Cl prog 79 [stv l] w fun r w' => r = iv (ofN l : Nat) ∧ w' = w := by
 refine c79 ?_; unfold T79
 simp only [RS, aj]
 refine ⟨fun vs w2 => ∃ i : Nat, vs = [qv (sd (l.take i)), iv i] ∧ i ≤ l.length ∧ w2 = w, fun vs _ => (l.length - nth vs 1).toNat, ⟨0, rfl, by omega, rfl⟩, ?_⟩
 rintro _ w2 cv ivv ⟨i, hvs, hi, rfl⟩
 cases hvs
 have hc : sd (l.take i) < 2 ^ 64 := by rw [py]; omega
 by_cases hlt : i < l.length
 ·have e1 : decide ((i : Int) < (l.length : Int)) = true := by rw [decide_eq_true_eq]; omega
  have e2 : IntKind.i64.wrap ((i : Int) + 1) = ((i + 1 : Nat) : Int) := by rw [ab] <;> omega
  have hx : l[i]? = some l[i] := List.getElem?_eq_getElem hlt
  generalize l[i] = b at hx
  have hst : sd (l.take (i + 1)) = (sd (l.take i) * 256 + b.toNat) % 2 ^ 64 := eN _ _ hx
  generalize sd (l.take i) = c at hc hst
  have hb := b.toNat_lt
  have q1 : IntKind.u64.wrap (b.toNat : Int) = (b.toNat : Int) := jC (by omega)
  have o1 := vq (TypeDesc.int .u64) (a := c * 256 % 2 ^ 64) (b := b.toNat) (by omega) (by omega) (by omega)
  simp only [RS, e1, ti, dy hx, aV, q1, o1, e2]
  refine ⟨⟨i + 1, ?_, by omega, (by trivial)⟩, by simp only [bM]; omega⟩
  rw [hst]
  congr 3
  omega
 ·have hie : i = l.length := by omega
  subst hie
  have e1 : decide (((l.length : Nat) : Int) < (l.length : Int)) = false := by simp
  rw [List.take_length] at hc ⊢
  have q1 : IntKind.i64.wrap ((sd l % 2 ^ 63 : Nat) : Int) = ((sd l % 2 ^ 63 : Nat) : Int) := bH (by omega)
  simp only [RS, e1, ta _ hc, aV, q1]
  refine ⟨?_, (by trivial)⟩
  rw [ofN, py]
  congr 2
  omega
theorem cN (w : World) (l : Bs) (hl : l.length ≤ 9223372036854775806) : Cl prog 83 [stv l] w fun r w' => r = iv (ofN l : Nat) ∧ w' = w := by
 refine c83 ?_; unfold T83
 refine ⟨fun vs w2 => ∃ i : Nat, vs = [iv (ofN (l.take i) : Nat), iv i] ∧ i ≤ l.length ∧ w2 = w, fun vs _ => (l.length - nth vs 1).toNat, ⟨0, rfl, by omega, rfl⟩, ?_⟩
 rintro _ w2 cv ivv ⟨i, hvs, hi, rfl⟩
 cases hvs
 have hc : ofN (l.take i) < 2 ^ 63 := by unfold ofN; omega
 by_cases hlt : i < l.length
 ·have e1 : decide ((i : Int) < (l.length : Int)) = true := by rw [decide_eq_true_eq]; omega
  have e2 : IntKind.i64.wrap ((i : Int) + 1) = ((i + 1 : Nat) : Int) := by rw [ab] <;> omega
  have hx : l[i]? = some l[i] := List.getElem?_eq_getElem hlt
  generalize l[i] = b at hx
  have hst : ofB (l.take (i + 1)) = ofB (l.take i) * 256 + b.toNat := eN _ _ hx
  have hb := b.toNat_lt
  have hn : ofN (l.take (i + 1)) = ofN (l.take i) % 36028797018963968 * 256 + b.toNat := by
   unfold ofN
   rw [hst]; omega
  generalize ofN (l.take i) = c at hc hn
  have r1 := bC (TypeDesc.int .i64) (n := c) (m := 36028797018963968) (by omega) (by omega) (b := 36028797018963968) rfl
  have m1 : IntKind.i64.wrap (((c % 36028797018963968 : Nat) : Int) * 256) = ((c % 36028797018963968 * 256 : Nat) : Int) := by rw [ab] <;> omega
  have q1 : IntKind.i64.wrap (b.toNat : Int) = (b.toNat : Int) := bH (by omega)
  have a1 : IntKind.i64.wrap (((c % 36028797018963968 * 256 : Nat) : Int) + (b.toNat : Int)) = ((c % 36028797018963968 * 256 + b.toNat : Nat) : Int) := by rw [ab] <;> omega
  simp only [RS, aj, e1, r1, m1, dy hx, aV, q1, a1, e2]
  exact ⟨⟨i + 1, by rw [hn], by omega, (by trivial)⟩, by simp only [bM]; omega⟩
 ·have hie : i = l.length := by omega
  subst hie
  have e1 : decide (((l.length : Nat) : Int) < (l.length : Int)) = false := by simp
  rw [List.take_length]
  simp only [RS, aj, e1]
  exact ⟨(by trivial), (by trivial)⟩
theorem B44 : ByteT prog 123 5 9 := mV Tryz.underlying123 Tryz.underlying5 Tryz.underlying9 (by kernel_rfl)
theorem wS : KeyT prog 124 3 9 iv := nz Tryz.underlying124 Tryz.underlying3
theorem z9 (w : World) : (zeroValue 9).run prog w = .ok (stv []) w := by kernel_rfl
theorem vG (g n c m : Nat) (w : World) : (Instr.build 126 #[(0, .slice (some ⟨g, 0, none⟩) n c), (1, .map (some m))]).run prog w = .ok (.agg #[.slice (some ⟨g, 0, none⟩) n c, .map (some m), iv 0, .bool false, iv 0]) w := by kernel_rfl
structure DAt (w : World) (b g m : Nat) (d : Dk) : Prop where
 wf : d.Wf
 st : w.heap[b]? = some (.cells #[.slice (some ⟨g, 0, none⟩) (64 * d.cur.length) (64 * d.cur.length), .map (some m), iv d.armed, .bool d.gone, iv d.done] 126)
 by_ : BRow w g 5 d.cur.flatten
 mp : ∃ M : List (Int × Bs), MapAt w m iv stv M ∧ ∀ k x, (k, x) ∈ M ↔ ∃ i : Nat, k = (i : Int) ∧ Dk.isC d.chg i = true ∧ d.old[i]? = some x
theorem DAt.bg {w : World} {b g m : Nat} {d : Dk} (h : DAt w b g m d) : b ≠ g := by
 rintro rfl
 have := h.st; rw [h.by_] at this; simp at this
theorem DAt.bm {w : World} {b g m : Nat} {d : Dk} (h : DAt w b g m d) : b ≠ m := by
 rintro rfl
 obtain ⟨M, hM, _⟩ := h.mp
 obtain ⟨es, c, hb, _⟩ := hM.ex
 rw [h.st] at hb; cases hb
theorem DAt.gm {w : World} {b g m : Nat} {d : Dk} (h : DAt w b g m d) : g ≠ m := by
 rintro rfl
 obtain ⟨M, hM, _⟩ := h.mp
 obtain ⟨es, c, hb, _⟩ := hM.ex
 have := h.by_
 unfold BRow at this
 rw [this] at hb; cases hb
theorem DAt.keep {S : Nat → Prop} {w w' : World} {b g m : Nat} {d : Dk} (h : DAt w b g m d) (hf : Fm S w w') (h1 : ¬ S b) (h2 : ¬ S g) (h3 : ¬ S m) : DAt w' b g m d := by
 obtain ⟨M, hM, hi⟩ := h.mp
 exact ⟨h.wf, hf.heap h.st h1, h.by_.keep hf h2, M, hM.keep hf h3, hi⟩
theorem DAt.keep0 {w w' : World} {b g m : Nat} {d : Dk} (h : DAt w b g m d) (hf : Fm (fun _ => False) w w') : DAt w' b g m d := h.keep hf (fun e => e) (fun e => e) (fun e => e)
theorem DAt.drew {w : World} {b g m : Nat} {d : Dk} (h : DAt w b g m d) : DAt w.drew b g m d := h.keep0 (Fm.drew _ w)
theorem DAt.lt {w : World} {b g m : Nat} {d : Dk} (h : DAt w b g m d) : b < w.heap.size ∧ g < w.heap.size ∧ m < w.heap.size := by
 obtain ⟨M, hM, _⟩ := h.mp
 exact ⟨aq h.st, h.by_.lt, hM.lt⟩
theorem DAt.c0 {w : World} {b g m : Nat} {d : Dk} (h : DAt w b g m d) : w.cell? ⟨b, 0, none⟩ = some (.slice (some ⟨g, 0, none⟩) (64 * d.cur.length) (64 * d.cur.length)) := by rw [ag h.st]; rfl
theorem DAt.c1 {w : World} {b g m : Nat} {d : Dk} (h : DAt w b g m d) : w.cell? ⟨b, 1, none⟩ = some (.map (some m)) := by rw [ag h.st]; rfl
theorem DAt.c3 {w : World} {b g m : Nat} {d : Dk} (h : DAt w b g m d) : w.cell? ⟨b, 3, none⟩ = some (.bool d.gone) := by rw [ag h.st]; rfl
theorem DAt.c4 {w : World} {b g m : Nat} {d : Dk} (h : DAt w b g m d) : w.cell? ⟨b, 4, none⟩ = some (iv d.done) := by rw [ag h.st]; rfl
theorem kj (w : World) (n : Int) : Cl prog 17 [iv n] w fun v w' =>
  (n < 1 ∨ 65536 < n → v = .tuple #[.pointer none, iv 1] ∧ w' = w) ∧
  (¬ (n < 1 ∨ 65536 < n) → ∃ b g m, v = .tuple #[pv b, iv 0] ∧ w.heap.size ≤ b ∧ w.heap.size ≤ g ∧ w.heap.size ≤ m ∧ DAt w' b g m (Dk.mk0 n.toNat) ∧ Fm (fun _ => False) w w') := by
 refine c17 ?_; unfold T17
 have ok : ¬ (n < 1 ∨ 65536 < n) → Pu (aa (TypeDesc.int .i64) .mul (iv n) (Value.int .i64 64)) fun t11_7 =>
   RunS prog (Instr.makeSlice 123 t11_7 t11_7) w fun t12_8 w_9 =>
   RunS prog (Instr.makeMap 124 none) w_9 fun t13_10 w_11 =>
   RunS prog (Instr.build 126 #[(0, t12_8), (1, t13_10)]) w_11 fun t14_12 w_13 =>
   New (Value.cells t14_12) 126 w_13 fun t15_14 w_15 =>
   ∃ b g m, Value.tuple #[t15_14, (Value.int .i64 0)] = .tuple #[pv b, iv 0] ∧ w.heap.size ≤ b ∧ w.heap.size ≤ g ∧ w.heap.size ≤ m ∧ DAt w_15 b g m (Dk.mk0 n.toNat) ∧ Fm (fun _ => False) w w_15 := by
  intro hn
  obtain ⟨k, rfl⟩ := Int.eq_ofNat_of_zero_le (show 0 ≤ n by omega)
  have hk : 1 ≤ k ∧ k ≤ 65536 := by omega
  have e1 : IntKind.i64.wrap ((k : Int) * 64) = ((64 * k : Nat) : Int) := by rw [ab] <;> omega
  simp only [RS, e1]
  refine af (BRow.make B44 w (64 * k) (by omega)) (af (eR _ _) (af (vG _ _ _ _ _) (ao ?_)))
  intro b w' hb hs hw hf
  have hs1 := bo w (.cells (bc (List.replicate (64 * k) 0)).toArray 5)
  generalize hw1 : w.alloc (.cells (bc (List.replicate (64 * k) 0)).toArray 5) = w1 at hs1 hb hs hf hw
  have hg : BRow w1 w.heap.size 5 (List.replicate (64 * k) 0) := by rw [← hw1]; exact az _ _
  have hf1 : Fm (fun _ => False) w w1 := by rw [← hw1]; exact Fm.alloc _ _ _
  have hM := (MapAt.empty w1 iv stv).keep hf (fun e => e)
  have hf2 := (Fm.alloc (fun _ => False) w1 (.map #[] 0))
  rw [bo] at hb
  have hfl : List.replicate (64 * k) 0 = (Dk.mk0 k).cur.flatten := by
   show _ = (List.replicate k Dk.zsec).flatten
   rw [Dk.zsec, List.flatten_replicate_replicate, Nat.mul_comm]
  have hlen : (Dk.mk0 k).cur.length = k := by simp [Dk.mk0]
  refine ⟨b, w.heap.size, w1.heap.size, rfl, by omega, by omega, by omega, ⟨Dk.wf_mk0 hk.2, ?_, ?_, [], hM, ?_⟩, ?_⟩
  ·rw [Int.toNat_natCast, hlen]; exact hw
  ·rw [Int.toNat_natCast, ← hfl]; exact (hg.keep hf2 (fun e => e)).keep hf (fun e => e)
  ·intro a x
   constructor
   ·intro h; cases h
   ·rintro ⟨i, _, hc, _⟩
    have := Dk.isC_rep k i
    rw [show (Dk.mk0 (k : Int).toNat).chg = List.replicate k false from rfl] at hc
    rw [this] at hc; cases hc
  ·exact (hf1.trans hf2 (fun _ _ e => e) (fun _ _ e => e)).trans hf (fun _ _ e => e) (fun _ _ e => e)
 by_cases h1 : n < 1
 ·have e1 : decide (n < 1) = true := by simpa using h1
  simp only [RS, e1]
  exact ⟨fun _ => ⟨trivial, trivial⟩, fun h => absurd (.inl h1) h⟩
 ·have e1 : decide (n < 1) = false := by simpa using h1
  by_cases h2 : 65536 < n
  ·have e2 : decide (65536 < n) = true := by simpa using h2
   simp only [RS, e1, e2]
   exact ⟨fun _ => ⟨trivial, trivial⟩, fun h => absurd (.inr h2) h⟩
  ·have e2 : decide (65536 < n) = false := by simpa using h2
   have hno : ¬ (n < 1 ∨ 65536 < n) := by omega
   have := ok hno
   simp only [RS, e1, e2]
   simp only [hno, false_imp_iff, true_and, not_false_eq_true, true_imp_iff]
   simp only [RS] at this
   exact this
theorem dx {w : World} {b g m : Nat} {d : Dk} (h : DAt w b g m d) : Cl prog 108 [pv b] w fun v w' => v = iv d.cur.length ∧ w' = w := by
 have hn := h.wf.n1
 refine c108 ?_; unfold T108
 have e := cu (TypeDesc.int .i64) (n := 64 * d.cur.length) (m := 64) (b := 64) (by omega) (by omega) rfl
 simp only [RS, h.c0, e]
 rw [Nat.mul_div_cancel_left _ (by omega)]
 exact ⟨(by trivial), (by trivial)⟩
theorem dK {w : World} {b g m : Nat} {d : Dk} (h : DAt w b g m d) : Cl prog 110 [pv b] w fun v w' => v = iv (bif d.gone then 5 else 0) ∧ w' = w := by
 refine c110 ?_; unfold T110
 simp only [RS, h.c3]
 cases d.gone <;> simp only [RS, cond_true, cond_false, and_self]
theorem lx {w : World} {b g m : Nat} {d : Dk} (h : DAt w b g m d) (a k : Int) : Cl prog 114 [pv b, iv a, iv k] w fun v w' => v = .bool (d.has a k) ∧ w' = w := by
 have hn := h.wf.n1
 refine c114 ?_; unfold T114
 unfold Dk.has
 by_cases h1 : 0 ≤ a
 ·have e1 : decide (0 ≤ a) = true := by simpa using h1
  by_cases h2 : 0 ≤ k
  ·have e2 : decide (0 ≤ k) = true := by simpa using h2
   simp only [RS, e1, e2]
   refine (dx h).mono ?_
   rintro _ w ⟨rfl, rfl⟩
   by_cases h3 : a ≤ d.cur.length
   ·have e3 : decide (a ≤ (d.cur.length : Int)) = true := by simpa using h3
    simp only [RS, e3]
    refine (dx h).mono ?_
    rintro _ w ⟨rfl, rfl⟩
    have e4 : IntKind.i64.wrap ((d.cur.length : Int) - a) = d.cur.length - a := ab (by omega)
    simp only [RS, e4]
    refine ⟨?_, (by trivial)⟩
    congr 1
    simp [h1, h2, h3]
   ·have e3 : decide (a ≤ (d.cur.length : Int)) = false := by simpa using h3
    simp only [RS, e3]
    refine ⟨?_, (by trivial)⟩
    congr 1
    symm
    rw [decide_eq_false_iff_not]; omega
  ·have e2 : decide (0 ≤ k) = false := by simpa using h2
   simp only [RS, e1, e2]
   refine ⟨?_, (by trivial)⟩
   congr 1
   symm
   rw [decide_eq_false_iff_not]; omega
 ·have e1 : decide (0 ≤ a) = false := by simpa using h1
  simp only [RS, e1]
  refine ⟨?_, (by trivial)⟩
  congr 1
  symm
  rw [decide_eq_false_iff_not]; omega
theorem gi {w : World} {b g m : Nat} {d : Dk} (h : DAt w b g m d) {i : Nat} (hi : i < d.cur.length) : Cl prog 121 [pv b, iv i] w fun v w' => v = .slice (some ⟨g, 64 * i, none⟩) 64 (64 * d.cur.length - 64 * i) ∧ w' = w := by
 have hn := h.wf.n1
 refine c121 ?_; unfold T121
 have e1 : IntKind.i64.wrap ((i : Int) * 64) = ((64 * i : Nat) : Int) := by rw [ab] <;> omega
 have e2 : IntKind.i64.wrap ((i : Int) + 1) = ((i + 1 : Nat) : Int) := by rw [ab] <;> omega
 have e3 : IntKind.i64.wrap (((i + 1 : Nat) : Int) * 64) = ((64 * (i + 1) : Nat) : Int) := by rw [ab] <;> omega
 obtain ⟨o', hs, ho, _⟩ := nu (g := g) (o := 0) (n := 64 * d.cur.length) (c := 64 * d.cur.length) (i := 64 * i) (j := 64 * (i + 1)) (by omega) (by omega) .i64 .i64
 simp only [RS, h.c0, e1, e2, e3, hs]
 rw [ho (by omega), show 64 * (i + 1) - 64 * i = 64 by omega, Nat.zero_add]
 exact ⟨(by trivial), (by trivial)⟩
theorem DAt.tick {w w' : World} {b g m : Nat} {d d' : Dk} (h : DAt w b g m d) (hc : d'.cur = d.cur ∧ d'.old = d.old ∧ d'.chg = d.chg) (hwf : d'.Wf)
  (hb : w'.heap[b]? = some (.cells #[.slice (some ⟨g, 0, none⟩) (64 * d.cur.length) (64 * d.cur.length), .map (some m), iv d'.armed, .bool d'.gone, iv d'.done] 126)) (hf : Fm (· = b) w w') : DAt w' b g m d' := by
 obtain ⟨M, hM, hi⟩ := h.mp
 have h1 := h.bg; have h2 := h.bm
 obtain ⟨hc1, hc2, hc3⟩ := hc
 exact ⟨hwf, by rw [hc1]; exact hb, by rw [hc1]; exact h.by_.keep hf (fun e => h1 e.symm), M, hM.keep hf (fun e => h2 e.symm), by rw [hc2, hc3]; exact hi⟩
theorem lm {w : World} {b g m : Nat} {d : Dk} (h : DAt w b g m d) : Cl prog 111 [pv b] w fun v w' => v = .bool d.tick.gone ∧ DAt w' b g m d.tick ∧ Fm (· = b) w w' := by
 have har := h.wf.ar
 refine c111 ?_; unfold T111
 simp only [RS, h.c4]
 refine ay h.st (by simp) rfl ?_
 intro w1 hw1 hs1 hf1
 replace hw1 : w1.heap[b]? = some (.cells #[.slice (some ⟨g, 0, none⟩) (64 * d.cur.length) (64 * d.cur.length), .map (some m), iv d.armed, .bool d.gone, iv (IntKind.i64.wrap (d.done + 1))] 126) := hw1
 have c2 : w1.cell? ⟨b, 2, none⟩ = some (iv d.armed) := by rw [ag hw1]; rfl
 refine bG (fun vs w2 => vs = [] ∧ DAt w2 b g m d.tick ∧ Fm (· = b) w w2) ?_ ?_
 ·rintro _ w2 ⟨rfl, hD, hf⟩ _
  refine ⟨rfl, ?_⟩
  simp only [RS, hD.c3]
  exact ⟨trivial, hD, hf⟩
 ·intro kk hkk
  simp only [RS, c2]
  by_cases ha : 0 < d.armed
  ·have e1 : decide (0 < d.armed) = true := by simpa using ha
   have e2 : IntKind.i64.wrap (d.armed - 1) = d.armed - 1 := ab (by omega)
   simp only [RS, e1, c2, e2]
   refine ay hw1 (by simp) rfl ?_
   intro w2 hw2 hs2 hf2
   replace hw2 : w2.heap[b]? = some (.cells #[.slice (some ⟨g, 0, none⟩) (64 * d.cur.length) (64 * d.cur.length), .map (some m), iv (d.armed - 1), .bool d.gone, iv (IntKind.i64.wrap (d.done + 1))] 126) := hw2
   have c2' : w2.cell? ⟨b, 2, none⟩ = some (iv (d.armed - 1)) := by rw [ag hw2]; rfl
   simp only [RS, c2']
   refine ay hw2 (by simp) rfl ?_
   intro w3 hw3 hs3 hf3
   have hF : Fm (· = b) w w3 := (hf1.trans hf2 (fun _ _ e => e) (fun _ _ e => e)).trans hf3 (fun _ _ e => e) (fun _ _ e => e)
   refine hkk _ _ ⟨rfl, h.tick (Dk.tick_cur d) h.wf.tick ?_ hF, hF⟩
   unfold Dk.tick
   rw [if_pos ha]
   rw [aA] at hw3
   exact hw3
  ·have e1 : decide (0 < d.armed) = false := by simpa using ha
   simp only [RS, e1]
   refine hkk _ _ ⟨rfl, h.tick (Dk.tick_cur d) h.wf.tick ?_ hf1, hf1⟩
   unfold Dk.tick
   rw [if_neg ha]
   exact hw1
theorem fQ {w : World} {b g m : Nat} {d : Dk} (h : DAt w b g m d) (a k : Int) : Cl prog 40 [pv b, iv a, iv k] w fun v w' => v = .tuple #[stv (d.read a k).1, iv (d.read a k).2] ∧ w' = w := by
 have hn := h.wf.n1
 refine c40 ?_; unfold T40
 refine (dK h).mono ?_
 rintro _ w ⟨rfl, rfl⟩
 unfold Dk.read
 cases hg : d.gone with
 | true =>
  simp only [RS, cond_true, al]
  exact ⟨(by trivial), (by trivial)⟩
 | false =>
  simp only [RS, cond_false, bne_self_eq_false]
  refine (lx h a k).mono ?_
  rintro _ w ⟨rfl, rfl⟩
  cases hh : d.has a k with
  | false =>
   simp only [RS, cond_true]
   exact ⟨(by trivial), (by trivial)⟩
  | true =>
   unfold Dk.has at hh
   simp only [decide_eq_true_eq] at hh
   obtain ⟨i, rfl⟩ := Int.eq_ofNat_of_zero_le hh.1
   obtain ⟨j, rfl⟩ := Int.eq_ofNat_of_zero_le hh.2.1
   have hij : i + j ≤ d.cur.length := by omega
   have e1 : IntKind.i64.wrap ((i : Int) * 64) = ((64 * i : Nat) : Int) := by rw [ab] <;> omega
   have e2 : IntKind.i64.wrap ((i : Int) + j) = ((i + j : Nat) : Int) := by rw [ab] <;> omega
   have e3 : IntKind.i64.wrap (((i + j : Nat) : Int) * 64) = ((64 * (i + j) : Nat) : Int) := by rw [ab] <;> omega
   obtain ⟨o', hs, ho, hle, _⟩ := nu (g := g) (o := 0) (n := 64 * d.cur.length) (c := 64 * d.cur.length) (i := 64 * i) (j := 64 * (i + j)) (by omega) (by omega) .i64 .i64
   simp only [RS, h.c0, e1, e2, e3, hs, cond_false]
   have hfl := Dk.flat_len h.wf.s1
   have ee : 64 * (i + j) - 64 * i = 64 * j := by omega
   rw [ee]
   refine af (h.by_.conv B44 (o := o') (n := 64 * j) (by rw [hfl]; omega) _) ⟨?_, (by trivial)⟩
   congr 3
   have hd : (d.cur.flatten.drop o').take (64 * j) = ((d.cur.drop i).take j).flatten := by
    by_cases hi : 64 * i < 64 * d.cur.length
    ·rw [ho hi, Nat.zero_add, Dk.flat_drop h.wf.s1, Dk.flat_take (fun x hx => h.wf.s1 x (List.mem_of_mem_drop hx))]
    ·have hj0 : j = 0 := by omega
     subst hj0; simp
   rw [hd]; rfl
theorem ja {w : World} {b g m : Nat} {d : Dk} (h : DAt w b g m d) : Cl prog 58 [pv b] w fun v w' => v = .bool d.gone ∧ w' = w := by
 refine c58 ?_; unfold T58
 simp only [RS, h.c3, pi, and_self]
theorem oz {w : World} {b g m : Nat} {d : Dk} (h : DAt w b g m d) : Cl prog 145 [pv b] w fun v w' => v = iv d.done ∧ w' = w := by
 refine c145 ?_; unfold T145
 simp only [RS, h.c4, and_self]
theorem oV {w : World} {b g m : Nat} {d : Dk} (h : DAt w b g m d) {a : Int} (ha : a ≤ 9223372036854775807) : Cl prog 56 [pv b, iv a] w fun v w' => v = iv (d.arm a).2 ∧ DAt w' b g m (d.arm a).1 ∧ Fm (· = b) w w' := by
 have hwf := h.wf.arm ha
 refine c56 ?_; unfold T56
 refine (dK h).mono ?_
 rintro _ w ⟨rfl, rfl⟩
 unfold Dk.arm at hwf ⊢
 cases hg : d.gone with
 | true =>
  simp only [RS, cond_true, al]
  exact ⟨(by trivial), h, Fm.refl _ _⟩
 | false =>
  rw [hg] at hwf
  simp only [RS, cond_false, bne_self_eq_false]
  by_cases hn : a < 0
  ·have e1 : decide (a < 0) = true := by simpa using hn
   simp only [RS, e1, cond_true]
   exact ⟨(by trivial), h, Fm.refl _ _⟩
  ·have e1 : decide (a < 0) = false := by simpa using hn
   simp only [RS, e1, cond_false]
   rw [e1] at hwf
   refine ay h.st (by simp) rfl ?_
   intro w1 hw1 hs1 hf1
   exact ⟨(by trivial), h.tick ⟨rfl, rfl, rfl⟩ hwf (by rw [hg] at hw1; exact hw1) hf1, hf1⟩
open Go.ChangeMaps (setBlock)
theorem lh {P : Program} {t kt et : TypeId} (ht : P.underlying t = some (.map kt et)) {α β : Type} [DecidableEq α] {kv : α → Value} {vv : β → Value} {w : World} {m : Nat} {M : List (α × β)} (h : MapAt w m kv vv M) (ty : TypeId) :
  ∃ w', (Builtin.clear_ #[t] ty #[.map (some m)]).run P w = .ok (.tuple #[]) w' ∧ MapAt w' m kv vv ([] : List (α × β)) ∧ Fm (· = m) w w' ∧ w'.heap.size = w.heap.size := by
 obtain ⟨es, c, hb, he, hn, hlt⟩ := h.ex
 refine ⟨setBlock w m (.map #[] c), ?_, ⟨⟨#[], c, ct hb, rfl, by simp, by simp⟩, by simp⟩, Fm.setBlock _ _ _ rfl, bK _ _ _⟩
 unfold Builtin.clear_
 simp only [List.getElem?_toArray, List.getElem?_cons_zero, Sem.run_bind, an ht, Result.andThen_ok, Go.Al.run_getObj_map hb, Go.Al.run_setObj_map hb, Sem.run_pure]
theorem fU {w : World} {b g m : Nat} {d : Dk} (h : DAt w b g m d) : Cl prog 38 [pv b] w fun v w' => v = iv d.sync.2 ∧ DAt w' b g m d.sync.1 ∧ Fm (fun x => x = b ∨ x = g ∨ x = m) w w' := by
 have hwf := h.wf.sync
 refine c38 ?_; unfold T38
 refine (dK h).mono ?_
 rintro _ w ⟨rfl, rfl⟩
 unfold Dk.sync at hwf ⊢
 cases hg : d.gone with
 | true =>
  simp only [RS, cond_true, al]
  exact ⟨(by trivial), h, Fm.refl _ _⟩
 | false =>
  rw [hg] at hwf
  simp only [RS, cond_false, bne_self_eq_false]
  refine (lm h).mono ?_
  rintro _ w1 ⟨rfl, h1, hf1⟩
  simp only [cond_false] at hwf
  cases hg1 : d.tick.gone with
  | true =>
   simp only [RS, cond_true]
   exact ⟨(by trivial), h1, hf1.mono fun _ _ e => .inl e⟩
  | false =>
   rw [hg1] at hwf
   simp only [RS, cond_false, h1.c1]
   obtain ⟨M, hM, _⟩ := h1.mp
   obtain ⟨w2, hr, hM2, hf2, _⟩ := lh Tryz.underlying124 hM 0
   refine af hr ?_
   refine ⟨(by trivial), ⟨hwf, ?_, ?_, [], hM2, ?_⟩, hf1.trans hf2 (fun _ _ e => .inl e) (fun _ _ e => .inr (.inr e))⟩
   ·have := hf2.heap h1.st h1.bm; rw [hg1] at this; exact this
   ·exact h1.by_.keep hf2 h1.gm
   ·intro k x
    constructor
    ·intro e; cases e
    ·rintro ⟨i, _, hc, _⟩
     simp only [Dk.isC_rep] at hc; cases hc
theorem DAt.noted {w : World} {b g m : Nat} {d : Dk} (h : DAt w b g m d) {i : Nat} (hi : i < d.cur.length) {M' : List (Int × Bs)} {w' : World}
  (hM : ∃ M : List (Int × Bs), MapAt w m iv stv M ∧ (∀ k x, (k, x) ∈ M ↔ ∃ i : Nat, k = (i : Int) ∧ Dk.isC d.chg i = true ∧ d.old[i]? = some x) ∧
   (Dk.isC d.chg i = false → M' = gu M (i : Int) (d.cur.getD i [])) ∧ (Dk.isC d.chg i = true → M' = M)) (hM' : MapAt w' m iv stv M') :
  ∀ k x, (k, x) ∈ M' ↔ ∃ j : Nat, k = (j : Int) ∧ Dk.isC (d.chg.set i true) j = true ∧ d.old[j]? = some x := by
 obtain ⟨M, hMw, hmem, hno, hyes⟩ := hM
 have hil : i < d.chg.length := by rw [h.wf.lc]; exact hi
 intro k x
 cases hc : Dk.isC d.chg i with
 | true =>
  rw [hyes hc, hmem]
  constructor
  ·rintro ⟨j, rfl, hj, hx⟩
   exact ⟨j, rfl, by rw [Dk.isC_set _ _ _ hil]; split <;> first | rfl | exact hj, hx⟩
  ·rintro ⟨j, rfl, hj, hx⟩
   refine ⟨j, rfl, ?_, hx⟩
   rw [Dk.isC_set _ _ _ hil] at hj
   split at hj
   ·rename_i e; subst e; exact hc
   ·exact hj
 | false =>
  have hs := hno hc
  subst hs
  have hold : d.old[i]? = some (d.cur.getD i []) := by
   rw [h.wf.same i hc, List.getD_eq_getElem?_getD, List.getElem?_eq_getElem hi]; rfl
  rw [← getD_some hM'.keys, oW]
  split
  ·rename_i e
   subst e
   constructor
   ·intro e; cases e
    exact ⟨i, rfl, by rw [Dk.isC_set _ _ _ hil, if_pos rfl], hold⟩
   ·rintro ⟨j, hj, _, hx⟩
    have : i = j := by omega
    subst this
    rw [hold] at hx; exact hx
  ·rename_i hne
   rw [getD_some hMw.keys, hmem]
   constructor
   ·rintro ⟨j, rfl, hj, hx⟩
    exact ⟨j, rfl, by rw [Dk.isC_set _ _ _ hil]; split <;> first | rfl | exact hj, hx⟩
   ·rintro ⟨j, rfl, hj, hx⟩
    refine ⟨j, rfl, ?_, hx⟩
    rw [Dk.isC_set _ _ _ hil, if_neg (fun e => hne (by rw [e]))] at hj
    exact hj
theorem eG {w : World} {b g m : Nat} {d : Dk} (h : DAt w b g m d) (a : Int) (s : Bs) (hs : s.length ≤ 9223372036854775807) : Cl prog 94 [pv b, iv a, stv s] w fun v w' => v = iv (d.write a s).2 ∧ DAt w' b g m (d.write a s).1 ∧ Fm (fun x => x = b ∨ x = g ∨ x = m) w w' := by
 have hn := h.wf.n1
 refine c94 ?_; unfold T94
 refine (dK h).mono ?_
 rintro _ w ⟨rfl, rfl⟩
 unfold Dk.write
 cases hg : d.gone with
 | true =>
  simp only [RS, cond_true, al]
  exact ⟨(by trivial), h, Fm.refl _ _⟩
 | false =>
  have er := bC (TypeDesc.int .i64) (n := s.length) (m := 64) (b := 64) (by omega) hs rfl
  have eq := cu (TypeDesc.int .i64) (n := s.length) (m := 64) (b := 64) (by omega) hs rfl
  simp only [RS, aj, br, aD, cond_false, bne_self_eq_false, er]
  by_cases hr : s.length % 64 = 0
  ·have e1 : (((s.length % 64 : Nat) : Int) != 0) = false := by rw [hr]; rfl
   have e1' : decide (s.length % 64 ≠ 0) = false := by simp [hr]
   simp only [RS, aj, br, aD, e1, e1', eq, Bool.false_or]
   refine (lx h a _).mono ?_
   rintro _ w ⟨rfl, rfl⟩
   cases hh : d.has a (s.length / 64 : Nat) with
   | false =>
    simp only [RS, cond_true]
    exact ⟨(by trivial), h, Fm.refl _ _⟩
   | true =>
    simp only [RS, cond_false]
    unfold Dk.has at hh
    simp only [decide_eq_true_eq] at hh
    obtain ⟨p, rfl⟩ := Int.eq_ofNat_of_zero_le hh.1
    rw [Int.toNat_natCast]
    have hlen : s.length = 64 * (s.length / 64) := by omega
    generalize hK : s.length / 64 = K at hh hlen ⊢
    refine ⟨fun vs w2 => ∃ (i r : Nat) (t : Bs) (e : Dk), vs = [iv (i : Nat), stv t] ∧ t.length = 64 * r ∧ i + r ≤ d.cur.length ∧ e.cur.length = d.cur.length ∧ d.wr p (Dk.chunks K s) = e.wr i (Dk.chunks r t) ∧ DAt w2 b g m e ∧ Fm (fun x => x = b ∨ x = g ∨ x = m) w w2,
     fun vs _ => sz1 vs, ⟨p, K, s, d, rfl, hlen, by omega, rfl, rfl, h, Fm.refl _ _⟩, ?_⟩
    rintro _ w2 iat idata ⟨i, r, t, e, hvs, htl, hir, hel, heq, hE, hf⟩
    cases hvs
    cases r with
    | zero =>
     have : t = [] := List.eq_nil_of_length_eq_zero (by omega)
     subst this
     simp only [RS, aj, br, aD, decide_true]
     rw [heq]
     exact ⟨(by trivial), hE, hf⟩
    | succ r =>
     have hne : t ≠ [] := by rintro rfl; simp at htl
     have hie : i < e.cur.length := by omega
     have e2 : decide (t = []) = false := by simpa using hne
     simp only [RS, aj, br, aD, e2]
     have heq2 : d.wr p (Dk.chunks K s) = (let d' := (e.put i (t.take 64)).tick; bif d'.gone then (d', 5) else d'.wr (i + 1) (Dk.chunks r (t.drop 64))) := heq
     refine bG (fun vs w3 => vs = [] ∧ (∃ M', MapAt w3 m iv stv M' ∧ ∀ k x, (k, x) ∈ M' ↔ ∃ j : Nat, k = (j : Int) ∧ Dk.isC (e.chg.set i true) j = true ∧ e.old[j]? = some x) ∧ Fm (· = m) w2 w3) ?_ ?_
     ·rintro _ w3 ⟨rfl, ⟨M', hM', hmem'⟩, hf3⟩ _
      refine ⟨rfl, ?_⟩
      have et : slS (stv t) none (some (.int .i64 64)) = some (stv (t.take 64)) := df (l := t) (i := 64) (by omega) .i64
      have et2 : slS (stv t) (some (.int .i64 64)) none = some (stv (t.drop 64)) := cQ (l := t) (i := 64) (by omega) .i64
      simp only [RS, et, et2]
      have hst3 := hf3.heap hE.st hE.bm
      have hby3 := hE.by_.keep hf3 hE.gm
      have hne3 : DAt w3.drew b g m { e with chg := List.replicate e.cur.length false, old := e.cur } ∨ True := .inr trivial
      refine Cl.mono (k := fun v w' => v = .slice (some ⟨g, 64 * i, none⟩) 64 (64 * e.cur.length - 64 * i) ∧ w' = w3.drew) ?_ ?_
      ·refine c121 ?_; unfold T121
       have g1 : IntKind.i64.wrap ((i : Int) * 64) = ((64 * i : Nat) : Int) := by rw [ab] <;> omega
       have g2 : IntKind.i64.wrap ((i : Int) + 1) = ((i + 1 : Nat) : Int) := by rw [ab] <;> omega
       have g3 : IntKind.i64.wrap (((i + 1 : Nat) : Int) * 64) = ((64 * (i + 1) : Nat) : Int) := by rw [ab] <;> omega
       obtain ⟨o', hs, ho, _⟩ := nu (g := g) (o := 0) (n := 64 * e.cur.length) (c := 64 * e.cur.length) (i := 64 * i) (j := 64 * (i + 1)) (by omega) (by omega) .i64 .i64
       have c0 : w3.cell? ⟨b, 0, none⟩ = some (.slice (some ⟨g, 0, none⟩) (64 * e.cur.length) (64 * e.cur.length)) := by rw [ag hst3]; rfl
       simp only [RS, c0, g1, g2, g3, hs]
       rw [ho (by omega), show 64 * (i + 1) - 64 * i = 64 by omega, Nat.zero_add]
       exact ⟨(by trivial), (by trivial)⟩
      ·rintro _ _ ⟨rfl, rfl⟩
       have hfl := Dk.flat_len hE.wf.s1
       have ht64 : (t.take 64).length = 64 := by rw [List.length_take]; omega
       have hfd := Fm.drew (fun _ => False) w3
       obtain ⟨w4, hr4, hby4, hs4, hf4⟩ := (hby3.keep hfd (fun e => e)).copyS B44 (o := 64 * i) (n := 64) (x := t.take 64) (by omega) (by rw [hfl]; omega) (64 * e.cur.length - 64 * i) 3
       refine af hr4 ?_
       have hput : DAt w4 b g m (e.put i (t.take 64)) := by
        refine ⟨hE.wf.put i ht64, ?_, ?_, M', ?_, hmem'⟩
        ·have := hf4.heap (hfd.heap hst3 (fun e => e)) hE.bg
         simpa [Dk.put] using this
        ·have := hby4
         rw [ht64] at this
         have l1 := Dk.flat_lay hE.wf.s1 hie (j := 0) (y := t.take 64) (by omega) (by omega)
         simp only [Nat.add_zero, List.take_zero, List.nil_append] at l1
         rw [l1] at this
         exact this
        ·exact (hM'.keep hfd (fun e => e)).keep hf4 (fun x => hE.gm x.symm)
       refine (lm hput).mono ?_
       rintro _ w5 ⟨rfl, h5, hf5⟩
       have hF : Fm (fun x => x = b ∨ x = g ∨ x = m) w w5 :=
        (((hf.trans hf3 (U := fun x => x = b ∨ x = g ∨ x = m) (fun _ _ e => e) (fun _ _ e => .inr (.inr e))).trans hfd (U := fun x => x = b ∨ x = g ∨ x = m) (fun _ _ e => e) (fun _ _ e => e.elim)).trans hf4 (U := fun x => x = b ∨ x = g ∨ x = m) (fun _ _ e => e) (fun _ _ e => .inr (.inl e))).trans hf5 (fun _ _ e => e) (fun _ _ e => .inl e)
       rw [heq2]
       cases hg5 : (e.put i (t.take 64)).tick.gone with
       | true =>
        simp only [RS, hg5, cond_true]
        exact ⟨(by trivial), h5, hF⟩
       | false =>
        have g4 : IntKind.i64.wrap ((i : Int) + 1) = ((i + 1 : Nat) : Int) := by rw [ab] <;> omega
        simp only [RS, cond_false, g4]
        have hl5 : (e.put i (t.take 64)).tick.cur.length = e.cur.length := by rw [(Dk.tick_cur _).1]; simp [Dk.put]
        refine ⟨⟨i + 1, r, t.drop 64, _, rfl, by rw [List.length_drop]; omega, by omega, by rw [hl5, hel], ?_, h5, hF⟩, ?_⟩
        ·simp only [hg5, cond_false]
        ·rw [sg, sg, List.length_drop]; omega
     ·intro kk hkk
      obtain ⟨M, hM, hmem⟩ := hE.mp
      simp only [RS, hE.c1]
      refine af (em wS hM (i : Int) true (z9 _)) ?_
      cases hc : Dk.isC e.chg i with
      | true =>
       have hlt : i < e.old.length := by rw [hE.wf.lo]; omega
       have hget : getD M (i : Int) = some e.old[i] := (getD_some hM.keys).2 ((hmem _ _).2 ⟨i, rfl, hc, List.getElem?_eq_getElem hlt⟩)
       simp only [hget, okV, cond_true]
       simp only [RS]
       exact hkk _ _ ⟨rfl, ⟨M, hM, hE.noted hie ⟨M, hM, hmem, fun e => (by rw [hc] at e; cases e), fun _ => rfl⟩ hM⟩, Fm.refl _ _⟩
      | false =>
       have hget : getD M (i : Int) = none := by
        cases hq : getD M (i : Int) with
        | none => rfl
        | some x =>
         obtain ⟨j, hj, hcj, _⟩ := (hmem _ _).1 ((getD_some hM.keys).1 hq)
         have : i = j := by omega
         subst this; rw [hc] at hcj; cases hcj
       simp only [hget, okV, cond_true]
       simp only [RS]
       refine ⟨fun w' => w'.cell? ⟨b, 1, none⟩ = some (.map (some m)), hE.c1, ?_⟩
       refine ⟨.map (some m), fun w' hw' => by simp only [RS, hw']; exact ⟨(by trivial), (by trivial)⟩, ?_⟩
       have hEd := hE.drew
       refine (gi hEd hie).mono ?_
       rintro _ _ ⟨rfl, rfl⟩
       refine ⟨hE.c1, ?_⟩
       have hfl := Dk.flat_len hE.wf.s1
       refine af (hEd.by_.conv B44 (o := 64 * i) (n := 64) (by rw [hfl]; omega) _) ⟨rfl, ?_⟩
       rw [Dk.flat_sec hE.wf.s1 hie]
       obtain ⟨w4, hr4, hM4, hf4, _⟩ := fM wS (hM.keep (Fm.drew (fun _ => False) w2) (fun e => e)) (i : Int) (e.cur.getD i [])
       refine lO hr4 ?_
       have hf24 : Fm (· = m) w2 w4 := (Fm.drew (fun _ => False) w2).trans hf4 (fun _ _ e => e.elim) (fun _ _ e => e)
       exact hkk _ _ ⟨rfl, ⟨_, hM4, hE.noted hie ⟨M, hM, hmem, fun _ => rfl, fun e => (by rw [hc] at e; cases e)⟩ hM4⟩, hf24⟩
  ·have e1 : (((s.length % 64 : Nat) : Int) != 0) = true := by
    rw [al]; simp; omega
   have e1' : decide (s.length % 64 ≠ 0) = true := by simp [hr]
   simp only [RS, aj, br, aD, e1, e1', Bool.true_or, cond_true]
   exact ⟨(by trivial), h, Fm.refl _ _⟩
theorem xg : ElemT prog 59 9 1 16 := cB Tryz.underlying59 (by kernel_rfl)
theorem rv (p : Int) (w : World) : (Instr.buildSlice 23 1 #[(0, iv p)]).run prog w = .ok (.slice (some ⟨w.heap.size, 0, none⟩) 1 1) (w.alloc (.cells #[iv p] 3)) := by kernel_rfl
theorem xn : ElemT prog 73 4 1 1 := cB Tryz.underlying73 (by kernel_rfl)
theorem vP : ElemT prog 23 3 1 8 := cB Tryz.underlying23 (by kernel_rfl)
theorem uA (p : Bs) (w : World) : (Instr.buildSlice 59 1 #[(0, stv p)]).run prog w = .ok (.slice (some ⟨w.heap.size, 0, none⟩) 1 1) (w.alloc (.cells #[stv p] 9)) := by kernel_rfl
theorem wu (p : Bool) (w : World) : (Instr.buildSlice 73 1 #[(0, .bool p)]).run prog w = .ok (.slice (some ⟨w.heap.size, 0, none⟩) 1 1) (w.alloc (.cells #[.bool p] 4)) := by kernel_rfl
theorem un (w : World) : (Instr.build 93 #[]).run prog w = .ok (.agg #[.slice none 0 0, .slice none 0 0, .slice none 0 0, iv 0, .bool false, iv 0]) w := by kernel_rfl
structure DkL where
 o : Nat
 n : Nat
 c : Nat
 co : Nat
 cn : Nat
 cc : Nat
structure DkAt (w : World) (b : Nat) (q : DkL) (d : Dk) : Prop where
 st : w.heap[b]? = some (.cells #[.slice (some ⟨q.o, 0, none⟩) d.old.length q.co, .slice (some ⟨q.n, 0, none⟩) d.cur.length q.cn, .slice (some ⟨q.c, 0, none⟩) d.chg.length q.cc, iv d.armed, .bool d.gone, iv d.done] 93)
 ro : PRow w q.o 9 (d.old.map stv)
 rn : PRow w q.n 9 (d.cur.map stv)
 rc : PRow w q.c 4 (d.chg.map Value.bool)
 ne : b ≠ q.o ∧ b ≠ q.n ∧ b ≠ q.c ∧ q.o ≠ q.n ∧ q.o ≠ q.c ∧ q.n ≠ q.c
def DkL.mine (b : Nat) (q : DkL) (x : Nat) : Prop := x = b ∨ x = q.o ∨ x = q.n ∨ x = q.c
theorem DkAt.keep {S : Nat → Prop} {w w' : World} {b : Nat} {q : DkL} {d : Dk} (h : DkAt w b q d) (hf : Fm S w w') (h1 : ∀ x, q.mine b x → ¬ S x) : DkAt w' b q d :=
 ⟨hf.heap h.st (h1 _ (.inl rfl)), h.ro.keep hf (h1 _ (.inr (.inl rfl))), h.rn.keep hf (h1 _ (.inr (.inr (.inl rfl)))), h.rc.keep hf (h1 _ (.inr (.inr (.inr rfl)))), h.ne⟩
theorem DkAt.keep0 {w w' : World} {b : Nat} {q : DkL} {d : Dk} (h : DkAt w b q d) (hf : Fm (fun _ => False) w w') : DkAt w' b q d := h.keep hf fun _ _ e => e
theorem DkAt.lt {w : World} {b : Nat} {q : DkL} {d : Dk} (h : DkAt w b q d) : ∀ x, q.mine b x → x < w.heap.size := by
 rintro x (rfl | rfl | rfl | rfl)
 ·exact aq h.st
 ·exact h.ro.lt
 ·exact h.rn.lt
 ·exact h.rc.lt
section
variable {w : World} {b : Nat} {q : DkL} {d : Dk} (h : DkAt w b q d)
include h
theorem DkAt.c0 : w.cell? ⟨b, 0, none⟩ = some (.slice (some ⟨q.o, 0, none⟩) d.old.length q.co) := by rw [ag h.st]; rfl
theorem DkAt.c1 : w.cell? ⟨b, 1, none⟩ = some (.slice (some ⟨q.n, 0, none⟩) d.cur.length q.cn) := by rw [ag h.st]; rfl
theorem DkAt.c2 : w.cell? ⟨b, 2, none⟩ = some (.slice (some ⟨q.c, 0, none⟩) d.chg.length q.cc) := by rw [ag h.st]; rfl
theorem DkAt.c3 : w.cell? ⟨b, 3, none⟩ = some (iv d.armed) := by rw [ag h.st]; rfl
theorem DkAt.c4 : w.cell? ⟨b, 4, none⟩ = some (.bool d.gone) := by rw [ag h.st]; rfl
theorem DkAt.c5 : w.cell? ⟨b, 5, none⟩ = some (iv d.done) := by rw [ag h.st]; rfl
theorem DkAt.drew : DkAt w.drew b q d := h.keep0 (Fm.drew _ w)
theorem DkAt.putO {i : Nat} (hi : i < d.old.length) (x : Bs) {k : KV} (hk : ∀ w', DkAt w' b q { d with old := d.old.set i x } → Fm (q.mine b) w w' → k undef w') : St 1 w (.pointer (some ⟨q.o, i, none⟩)) (stv x) k := by
 refine h.ro.put (by simpa using hi) rfl fun w' h1 _ h3 => hk w' ?_ (h3.mono fun _ _ e => .inr (.inl e))
 rw [← List.map_set] at h1
 obtain ⟨n1, n2, n3, n4, n5, n6⟩ := h.ne
 exact ⟨by simpa using h3.heap h.st n1, h1, h.rn.keep h3 (fun e => n4 e.symm), h.rc.keep h3 (fun e => n5 e.symm), h.ne⟩
theorem DkAt.putN {i : Nat} (hi : i < d.cur.length) (x : Bs) {k : KV} (hk : ∀ w', DkAt w' b q { d with cur := d.cur.set i x } → Fm (q.mine b) w w' → k undef w') : St 1 w (.pointer (some ⟨q.n, i, none⟩)) (stv x) k := by
 refine h.rn.put (by simpa using hi) rfl fun w' h1 _ h3 => hk w' ?_ (h3.mono fun _ _ e => .inr (.inr (.inl e)))
 rw [← List.map_set] at h1
 obtain ⟨n1, n2, n3, n4, n5, n6⟩ := h.ne
 exact ⟨by simpa using h3.heap h.st n2, h.ro.keep h3 n4, h1, h.rc.keep h3 (fun e => n6 e.symm), h.ne⟩
theorem DkAt.putC {i : Nat} (hi : i < d.chg.length) (x : Bool) {k : KV} (hk : ∀ w', DkAt w' b q { d with chg := d.chg.set i x } → Fm (q.mine b) w w' → k undef w') : St 1 w (.pointer (some ⟨q.c, i, none⟩)) (.bool x) k := by
 refine h.rc.put (by simpa using hi) rfl fun w' h1 _ h3 => hk w' ?_ (h3.mono fun _ _ e => .inr (.inr (.inr e)))
 rw [← List.map_set] at h1
 obtain ⟨n1, n2, n3, n4, n5, n6⟩ := h.ne
 exact ⟨by simpa using h3.heap h.st n3, h.ro.keep h3 n5, h.rn.keep h3 n6, h1, h.ne⟩
theorem DkAt.putA (x : Int) {k : KV} (hk : ∀ w', DkAt w' b q { d with armed := x } → Fm (q.mine b) w w' → k undef w') : St 1 w (.pointer (some ⟨b, 3, none⟩)) (iv x) k := by
 refine ay h.st (by simp) rfl fun w' h1 _ h3 => hk w' ?_ (h3.mono fun _ _ e => .inl e)
 obtain ⟨n1, n2, n3, n4, n5, n6⟩ := h.ne
 exact ⟨h1, h.ro.keep h3 (fun e => n1 e.symm), h.rn.keep h3 (fun e => n2 e.symm), h.rc.keep h3 (fun e => n3 e.symm), h.ne⟩
theorem DkAt.putG (x : Bool) {k : KV} (hk : ∀ w', DkAt w' b q { d with gone := x } → Fm (q.mine b) w w' → k undef w') : St 1 w (.pointer (some ⟨b, 4, none⟩)) (.bool x) k := by
 refine ay h.st (by simp) rfl fun w' h1 _ h3 => hk w' ?_ (h3.mono fun _ _ e => .inl e)
 obtain ⟨n1, n2, n3, n4, n5, n6⟩ := h.ne
 exact ⟨h1, h.ro.keep h3 (fun e => n1 e.symm), h.rn.keep h3 (fun e => n2 e.symm), h.rc.keep h3 (fun e => n3 e.symm), h.ne⟩
theorem DkAt.putD (x : Int) {k : KV} (hk : ∀ w', DkAt w' b q { d with done := x } → Fm (q.mine b) w w' → k undef w') : St 1 w (.pointer (some ⟨b, 5, none⟩)) (iv x) k := by
 refine ay h.st (by simp) rfl fun w' h1 _ h3 => hk w' ?_ (h3.mono fun _ _ e => .inl e)
 obtain ⟨n1, n2, n3, n4, n5, n6⟩ := h.ne
 exact ⟨h1, h.ro.keep h3 (fun e => n1 e.symm), h.rn.keep h3 (fun e => n2 e.symm), h.rc.keep h3 (fun e => n3 e.symm), h.ne⟩
theorem DkAt.cellO {i : Nat} {x : Bs} (hi : d.old[i]? = some x) : w.cell? ⟨q.o, i, none⟩ = some (stv x) := h.ro.cell (by rw [List.getElem?_map, hi]; rfl)
theorem DkAt.cellN {i : Nat} {x : Bs} (hi : d.cur[i]? = some x) : w.cell? ⟨q.n, i, none⟩ = some (stv x) := h.rn.cell (by rw [List.getElem?_map, hi]; rfl)
theorem DkAt.cellC {i : Nat} {x : Bool} (hi : d.chg[i]? = some x) : w.cell? ⟨q.c, i, none⟩ = some (.bool x) := h.rc.cell (by rw [List.getElem?_map, hi]; rfl)
theorem iQ (hw : d.Wf) (a k : Int) : Cl prog 135 [pv b, iv a, iv k] w fun v w' => v = .bool (d.has a k) ∧ w' = w := by
 have hn := hw.n1
 have hlo := hw.lo
 refine c135 ?_; unfold T135
 unfold Dk.has
 by_cases h1 : 0 ≤ a
 ·have e1 : decide (0 ≤ a) = true := by simpa using h1
  by_cases h2 : 0 ≤ k
  ·have e2 : decide (0 ≤ k) = true := by simpa using h2
   by_cases h3 : a ≤ d.cur.length
   ·have e3 : decide (a ≤ (d.old.length : Int)) = true := by simp; omega
    have e4 : IntKind.i64.wrap ((d.old.length : Int) - a) = d.old.length - a := ab (by omega)
    simp only [RS, e1, e2, h.c0, e3, e4]
    refine ⟨?_, (by trivial)⟩
    congr 1
    rw [hlo]
    simp [h1, h2, h3]
   ·have e3 : decide (a ≤ (d.old.length : Int)) = false := by simp; omega
    simp only [RS, e1, e2, h.c0, e3]
    refine ⟨?_, (by trivial)⟩
    congr 1
    symm
    rw [decide_eq_false_iff_not]; omega
  ·have e2 : decide (0 ≤ k) = false := by simpa using h2
   simp only [RS, e1, e2]
   refine ⟨?_, (by trivial)⟩
   congr 1
   symm
   rw [decide_eq_false_iff_not]; omega
 ·have e1 : decide (0 ≤ a) = false := by simpa using h1
  simp only [RS, e1]
  refine ⟨?_, (by trivial)⟩
  congr 1
  symm
  rw [decide_eq_false_iff_not]; omega
theorem jg (hw : d.Wf) : Cl prog 134 [pv b] w fun v w' => v = .bool d.tick.gone ∧ DkAt w' b q d.tick ∧ Fm (q.mine b) w w' := by
 have har := hw.ar
 refine c134 ?_; unfold T134
 simp only [RS, h.c5]
 refine h.putD _ ?_
 intro w1 h1 hf1
 refine bG (fun vs w2 => vs = [] ∧ DkAt w2 b q d.tick ∧ Fm (q.mine b) w w2) ?_ ?_
 ·rintro _ w2 ⟨rfl, hD, hf⟩ _
  refine ⟨rfl, ?_⟩
  simp only [RS, hD.c4]
  exact ⟨(by trivial), hD, hf⟩
 ·intro kk hkk
  simp only [RS, h1.c3]
  by_cases ha : 0 < d.armed
  ·have e1 : decide (0 < d.armed) = true := by simpa using ha
   have e2 : IntKind.i64.wrap (d.armed - 1) = d.armed - 1 := ab (by omega)
   simp only [RS, e1, e2]
   refine h1.putA _ ?_
   intro w2 h2 hf2
   simp only [RS, h2.c3]
   refine h2.putG _ ?_
   intro w3 h3 hf3
   refine hkk _ _ ⟨rfl, ?_, (hf1.trans hf2 (fun _ _ e => e) (fun _ _ e => e)).trans hf3 (fun _ _ e => e) (fun _ _ e => e)⟩
   unfold Dk.tick
   rw [if_pos ha]
   rw [aA] at h3
   exact h3
  ·have e1 : decide (0 < d.armed) = false := by simpa using ha
   simp only [RS, e1]
   refine hkk _ _ ⟨rfl, ?_, hf1⟩
   unfold Dk.tick
   rw [if_neg ha]
   exact h1
theorem od {a : Int} : Cl prog 57 [pv b, iv a] w fun v w' => v = iv (d.arm a).2 ∧ DkAt w' b q (d.arm a).1 ∧ Fm (q.mine b) w w' := by
 refine c57 ?_; unfold T57
 unfold Dk.arm
 simp only [RS, h.c4]
 cases hg : d.gone with
 | true =>
  simp only [RS, cond_true]
  exact ⟨(by trivial), h, Fm.refl _ _⟩
 | false =>
  simp only [RS, cond_false]
  by_cases hn : a < 0
  ·have e1 : decide (a < 0) = true := by simpa using hn
   simp only [RS, e1, cond_true]
   exact ⟨(by trivial), h, Fm.refl _ _⟩
  ·have e1 : decide (a < 0) = false := by simpa using hn
   simp only [RS, e1, cond_false]
   refine h.putA _ ?_
   intro w1 h1 hf1
   exact ⟨(by trivial), by rw [← hg]; exact h1, hf1⟩
theorem eU (hw : d.Wf) (a k : Int) : Cl prog 59 [pv b, iv a, iv k] w fun v w' => v = .tuple #[stv (d.read a k).1, iv (d.read a k).2] ∧ Fm (fun _ => False) w w' := by
 have hn := hw.n1
 refine c59 ?_; unfold T59
 unfold Dk.read
 simp only [RS, h.c4]
 cases hg : d.gone with
 | true =>
  simp only [RS, cond_true]
  exact ⟨(by trivial), Fm.refl _ _⟩
 | false =>
  simp only [RS, cond_false]
  refine (iQ h hw a k).mono ?_
  rintro _ w ⟨rfl, rfl⟩
  cases hh : d.has a k with
  | false =>
   simp only [RS, cond_true]
   exact ⟨(by trivial), Fm.refl _ _⟩
  | true =>
   unfold Dk.has at hh
   simp only [decide_eq_true_eq] at hh
   obtain ⟨i, rfl⟩ := Int.eq_ofNat_of_zero_le hh.1
   obtain ⟨j, rfl⟩ := Int.eq_ofNat_of_zero_le hh.2.1
   have hij : i + j ≤ d.cur.length := by omega
   have e1 : IntKind.i64.wrap ((i : Int) + j) = ((i + j : Nat) : Int) := by rw [ab] <;> omega
   simp only [RS, cond_false]
   refine ⟨fun vs w2 => ∃ (p : Nat) (u : Value), vs = [u, iv ((i + p : Nat) : Int)] ∧ p ≤ j ∧ w2.ownsRow w.heap.size 5 1 u (((d.cur.drop i).take p).flatten).length (bc ((d.cur.drop i).take p).flatten) ∧ DkAt w2 b q d ∧ Fm (fun _ => False) w w2, fun vs _ => (i + j - nth vs 1).toNat, ⟨0, _, rfl, by omega, by simpa [bc] using World.ownsRow_nil w _ _ _, h, Fm.refl _ _⟩, ?_⟩
   rintro _ w2 u ip ⟨p, _, hvs, hp, hu, h2, hf⟩
   cases hvs
   have hd64 : ∀ x ∈ (d.cur.drop i).take p, x.length = 64 := fun x hx => hw.s1 x (List.mem_of_mem_drop (List.mem_of_mem_take hx))
   have hl : (((d.cur.drop i).take p).flatten).length = 64 * p := by
    rw [Dk.flat_len hd64, List.length_take, List.length_drop]; congr 1; omega
   by_cases hlt : p < j
   ·have e2 : decide (((i + p : Nat) : Int) < ((i + j : Nat) : Int)) = true := by rw [decide_eq_true_eq]; omega
    have e3 : IntKind.i64.wrap (((i + p : Nat) : Int) + 1) = ((i + (p + 1) : Nat) : Int) := by rw [ab] <;> omega
    have hip : i + p < d.cur.length := by omega
    have hx : d.cur[i + p]? = some (d.cur.getD (i + p) []) := Dk.getD_eq hip
    have h64 := hw.cur64 hip
    generalize d.cur.getD (i + p) [] = x at hx h64
    have hst : (d.cur.drop i).take (p + 1) = (d.cur.drop i).take p ++ [x] := Dk.take_mid (by rw [List.getElem?_drop]; exact hx)
    simp only [RS, e1, e2, h2.c1, bD hip, Nat.mul_one, h2.cellN hx]
    obtain ⟨v', w3, hr, ho, hf3, _⟩ := dH B44 hu x 123 (by rw [hl]; omega) hf.size
    refine af hr ?_
    have hlt3 := hu.lt
    have hf3' : Fm (fun _ => False) w w3 := Fm.own hf hf3 (fun x hx => (hlt3 x hx).1)
    have h3 := h.keep0 hf3'
    simp only [RS, e3]
    refine ⟨⟨p + 1, _, rfl, by omega, ?_, h3, hf3'⟩, by simp only [bM]; omega⟩
    rw [hst, List.flatten_append, List.length_append]
    simpa using ho
   ·have hpe : p = j := by omega
    subst hpe
    have e2 : decide (((i + p : Nat) : Int) < ((i + p : Nat) : Int)) = false := by simp
    simp only [RS, e1, e2]
    exact af (jQ B44 hu) ⟨rfl, hf⟩
theorem dU (hw : d.Wf) (a : Int) (s : Bs) (hs : s.length ≤ 9223372036854775807) : Cl prog 123 [pv b, iv a, stv s] w fun v w' => v = iv (d.write a s).2 ∧ DkAt w' b q (d.write a s).1 ∧ Fm (q.mine b) w w' := by
 have hn := hw.n1
 refine c123 ?_; unfold T123
 unfold Dk.write
 simp only [RS, h.c4]
 cases hg : d.gone with
 | true =>
  simp only [RS, cond_true]
  exact ⟨(by trivial), h, Fm.refl _ _⟩
 | false =>
  have er := bC (TypeDesc.int .i64) (n := s.length) (m := 64) (b := 64) (by omega) hs rfl
  have eq := cu (TypeDesc.int .i64) (n := s.length) (m := 64) (b := 64) (by omega) hs rfl
  simp only [RS, aj, br, aD, cond_false, bne_self_eq_false, er]
  by_cases hr : s.length % 64 = 0
  ·have e1 : (((s.length % 64 : Nat) : Int) != 0) = false := by rw [hr]; rfl
   have e1' : decide (s.length % 64 ≠ 0) = false := by simp [hr]
   simp only [RS, aj, br, aD, e1, e1', eq, Bool.false_or]
   refine (iQ h hw a _).mono ?_
   rintro _ w ⟨rfl, rfl⟩
   cases hh : d.has a (s.length / 64 : Nat) with
   | false =>
    simp only [RS, cond_true]
    exact ⟨(by trivial), h, Fm.refl _ _⟩
   | true =>
    simp only [RS, cond_false]
    unfold Dk.has at hh
    simp only [decide_eq_true_eq] at hh
    obtain ⟨p, rfl⟩ := Int.eq_ofNat_of_zero_le hh.1
    rw [Int.toNat_natCast]
    have hlen : s.length = 64 * (s.length / 64) := by omega
    generalize hK : s.length / 64 = K at hh hlen eq ⊢
    refine ⟨fun vs w2 => ∃ (i : Nat) (e : Dk), vs = [iv (i : Nat)] ∧ i ≤ K ∧ e.cur.length = d.cur.length ∧ e.Wf ∧ d.wr p (Dk.chunks K s) = e.wr (p + i) (Dk.chunks (K - i) (s.drop (64 * i))) ∧ DkAt w2 b q e ∧ Fm (q.mine b) w w2,
     fun vs _ => (K - nth vs 0).toNat, ⟨0, d, rfl, by omega, rfl, hw, rfl, h, Fm.refl _ _⟩, ?_⟩
    rintro _ w2 ii ⟨i, e, hvs, hi, hel, hew, heq, hE, hf⟩
    cases hvs
    simp only [RS, aj, br, aD, eq]
    by_cases hlt : i < K
    ·have e2 : decide ((i : Int) < (K : Int)) = true := by rw [decide_eq_true_eq]; omega
     have e3 : IntKind.i64.wrap ((p : Int) + i) = ((p + i : Nat) : Int) := by rw [ab] <;> omega
     have e4 : IntKind.i64.wrap (64 * (i : Int)) = ((64 * i : Nat) : Int) := by rw [ab] <;> omega
     have e5 : IntKind.i64.wrap (((64 * i : Nat) : Int) + 64) = ((64 * i + 64 : Nat) : Int) := by rw [ab] <;> omega
     have e6 := cU (l := s) (i := 64 * i) (j := 64 * i + 64) (by omega) (by omega) .i64 .i64
     rw [show 64 * i + 64 - 64 * i = 64 by omega] at e6
     have hpi : p + i < e.cur.length := by omega
     have hpc : p + i < e.chg.length := by rw [hew.lc]; exact hpi
     obtain ⟨r, hr2⟩ : ∃ r, K - i = r + 1 := ⟨K - i - 1, by omega⟩
     have ht64 : ((s.drop (64 * i)).take 64).length = 64 := by rw [List.length_take, List.length_drop]; omega
     have heq2 : d.wr p (Dk.chunks K s) = (let d' := (e.put (p + i) ((s.drop (64 * i)).take 64)).tick; bif d'.gone then (d', 5) else d'.wr (p + i + 1) (Dk.chunks r (s.drop (64 * (i + 1))))) := by
      rw [heq, hr2]
      show (let d' := (e.put (p + i) ((s.drop (64 * i)).take 64)).tick; bif d'.gone then (d', 5) else d'.wr (p + i + 1) (Dk.chunks r ((s.drop (64 * i)).drop 64))) = _
      rw [List.drop_drop, show 64 * i + 64 = 64 * (i + 1) by omega]
     have hEd := hE.drew
     simp only [RS, aj, br, aD, e2, hE.c1, e3, e4, e5, e6, bD hpi, Nat.mul_one, true_and]
     refine hEd.putN hpi _ ?_
     intro w3 h3 hf3
     have hpc3 : p + i < ({ e with cur := e.cur.set (p + i) ((s.drop (64 * i)).take 64) } : Dk).chg.length := hpc
     simp only [RS, h3.c2, e3, bD hpc3, Nat.mul_one]
     refine h3.putC hpc _ ?_
     intro w4 h4 hf4
     have hput := hew.put (p + i) ht64
     refine (jg (d := e.put (p + i) ((s.drop (64 * i)).take 64)) h4 hput).mono ?_
     rintro _ w5 ⟨rfl, h5, hf5⟩
     have hF : Fm (q.mine b) w w5 := (((hf.trans (Fm.drew (fun _ => False) w2) (U := q.mine b) (fun _ _ e => e) (fun _ _ e => e.elim)).trans hf3 (U := q.mine b) (fun _ _ e => e) (fun _ _ e => e)).trans hf4 (U := q.mine b) (fun _ _ e => e) (fun _ _ e => e)).trans hf5 (fun _ _ e => e) (fun _ _ e => e)
     rw [heq2]
     cases hg5 : (e.put (p + i) ((s.drop (64 * i)).take 64)).tick.gone with
     | true =>
      simp only [RS, hg5, cond_true]
      exact ⟨(by trivial), h5, hF⟩
     | false =>
      have g4 : IntKind.i64.wrap ((i : Int) + 1) = ((i + 1 : Nat) : Int) := by rw [ab] <;> omega
      simp only [RS, cond_false, g4]
      have hl5 : (e.put (p + i) ((s.drop (64 * i)).take 64)).tick.cur.length = e.cur.length := by rw [(Dk.tick_cur _).1]; simp [Dk.put]
      refine ⟨⟨i + 1, _, rfl, by omega, by rw [hl5, hel], hput.tick, ?_, h5, hF⟩, by simp only [bw]; omega⟩
      simp only [hg5, cond_false]
      rw [show K - (i + 1) = r by omega]; rfl
    ·have hie : i = K := by omega
     subst hie
     have e2 : decide ((i : Int) < (i : Int)) = false := by simp
     simp only [RS, e2]
     rw [heq, Nat.sub_self]
     exact ⟨(by trivial), hE, hf⟩
  ·have e1 : (((s.length % 64 : Nat) : Int) != 0) = true := by
    rw [al]; simp; omega
   have e1' : decide (s.length % 64 ≠ 0) = true := by simp [hr]
   simp only [RS, aj, br, aD, e1, e1', Bool.true_or, cond_true]
   exact ⟨(by trivial), h, Fm.refl _ _⟩
end
section
variable {w : World} {b : Nat} {q : DkL} {d : Dk} (h : DkAt w b q d)
include h
theorem fa (hw : d.Wf) : Cl prog 54 [pv b] w fun v w' => v = iv d.sync.2 ∧ DkAt w' b q d.sync.1 ∧ Fm (q.mine b) w w' := by
 have hn := hw.n1
 refine c54 ?_; unfold T54
 unfold Dk.sync
 cases hg : d.gone with
 | true =>
  simp only [RS, h.c4, hg, cond_true]
  exact ⟨(by trivial), h, Fm.refl _ _⟩
 | false =>
  simp only [RS, h.c4, hg, cond_false]
  refine (jg h hw).mono ?_
  rintro _ w1 ⟨rfl, h1, hf1⟩
  have hw1 := hw.tick
  cases hg1 : d.tick.gone with
  | true =>
   simp only [RS, cond_true]
   exact ⟨(by trivial), h1, hf1⟩
  | false =>
   have hn1 : d.tick.cur.length ≤ 65536 := hw1.n1
   simp only [RS, cond_false]
   generalize d.tick = e at h1 hw1 hg1 hn1
   refine ⟨fun vs w2 => ∃ i : Nat, vs = [iv (i : Nat)] ∧ i ≤ e.cur.length ∧ DkAt w2 b q (e.smid i) ∧ Fm (q.mine b) w w2, fun vs _ => (e.cur.length - nth vs 0).toNat, ⟨0, rfl, by omega, by rw [Dk.smid_zero]; exact h1, hf1⟩, ?_⟩
   rintro _ w2 ii ⟨i, hvs, hi, h2, hf2⟩
   cases hvs
   obtain ⟨l1, l2⟩ := Dk.smid_len hw1 hi
   by_cases hlt : i < e.cur.length
   ·have e1 : decide ((i : Int) < ((e.smid i).old.length : Int)) = true := by rw [decide_eq_true_eq]; omega
    have e2 : IntKind.i64.wrap ((i : Int) + 1) = ((i + 1 : Nat) : Int) := by rw [ab] <;> omega
    have hio : i < (e.smid i).old.length := by omega
    have hic : i < (e.smid i).chg.length := by omega
    have hin : i < (e.smid i).cur.length := hlt
    have hx : (e.smid i).cur[i]? = some (e.cur.getD i []) := Dk.getD_eq hlt
    have h2d := h2.drew
    simp only [RS, h2.c0, e1, h2.c1, bD hin, Nat.mul_one, h2.cellN hx, bD hio, true_and]
    refine h2d.putO hio _ ?_
    intro w3 h3 hf3
    have hic3 : i < ({ e.smid i with old := (e.smid i).old.set i (e.cur.getD i []) } : Dk).chg.length := hic
    simp only [RS, h3.c2, bD hic3, Nat.mul_one]
    refine h3.putC hic _ ?_
    intro w4 h4 hf4
    simp only [RS, e2]
    refine ⟨⟨i + 1, rfl, by omega, ?_, ?_⟩, by simp only [bw]; omega⟩
    ·rw [Dk.smid_step hw1 hlt]; exact h4
    ·exact ((hf2.trans (Fm.drew (fun _ => False) w2) (U := q.mine b) (fun _ _ e => e) (fun _ _ e => e.elim)).trans hf3 (U := q.mine b) (fun _ _ e => e) (fun _ _ e => e)).trans hf4 (fun _ _ e => e) (fun _ _ e => e)
   ·have hie : i = e.cur.length := by omega
    subst hie
    have e1 : decide (((e.cur.length : Nat) : Int) < ((e.smid e.cur.length).old.length : Int)) = false := by rw [decide_eq_false_iff_not]; omega
    simp only [RS, h2.c0, e1]
    refine ⟨(by trivial), ?_, hf2⟩
    rw [Dk.smid_end hw1] at h2
    rw [hg1] at h2; exact h2
theorem lX (hw : d.Wf) : Cl prog 146 [pv b] w fun v w' => w'.ownsRow w.heap.size 3 1 v d.pend.length (d.pend.map fun i => iv (i : Nat)) ∧ Fm (fun _ => False) w w' := by
 have hn := hw.n1
 have hlc := hw.lc
 refine c146 ?_; unfold T146
 refine ⟨fun vs w2 => ∃ (i : Nat) (u : Value), vs = [u, iv (i : Nat)] ∧ i ≤ d.cur.length ∧ w2.ownsRow w.heap.size 3 1 u ((List.range i).filter (Dk.isC d.chg)).length (((List.range i).filter (Dk.isC d.chg)).map fun i => iv (i : Nat)) ∧ DkAt w2 b q d ∧ Fm (fun _ => False) w w2, fun vs _ => (d.cur.length - nth vs 1).toNat, ⟨0, _, rfl, by omega, by simpa using World.ownsRow_nil w _ _ _, h, Fm.refl _ _⟩, ?_⟩
 rintro _ w2 u ii ⟨i, _, hvs, hi, hu, h2, hf⟩
 cases hvs
 by_cases hlt : i < d.cur.length
 ·have e1 : decide ((i : Int) < (d.chg.length : Int)) = true := by rw [decide_eq_true_eq]; omega
  have e2 : IntKind.i64.wrap ((i : Int) + 1) = ((i + 1 : Nat) : Int) := by rw [ab] <;> omega
  have hic : i < d.chg.length := by omega
  have hx : d.chg[i]? = some (Dk.isC d.chg i) := Dk.getD_eq hic
  have hsucc : (List.range (i + 1)).filter (Dk.isC d.chg) = (List.range i).filter (Dk.isC d.chg) ++ if Dk.isC d.chg i then [i] else [] := by
   rw [List.range_succ, List.filter_append, List.filter_cons]; rfl
  simp only [RS, h2.c2, e1]
  refine bG (fun vs w3 => ∃ u', vs = [u'] ∧ w3.ownsRow w.heap.size 3 1 u' ((List.range (i + 1)).filter (Dk.isC d.chg)).length (((List.range (i + 1)).filter (Dk.isC d.chg)).map fun i => iv (i : Nat)) ∧ DkAt w3 b q d ∧ Fm (fun _ => False) w w3) ?_ ?_
  ·rintro _ w3 ⟨u', rfl, hu', h3, hf3⟩ _
   refine ⟨u', rfl, ?_⟩
   simp only [RS, e2]
   exact ⟨⟨i + 1, u', rfl, by omega, hu', h3, hf3⟩, by simp only [bM]; omega⟩
  ·intro kk hkk
   simp only [RS, h2.c2, bD hic, Nat.mul_one, h2.cellC hx]
   cases hc : Dk.isC d.chg i with
   | false =>
    simp only [RS]
    refine hkk _ _ ⟨u, rfl, ?_, h2, hf⟩
    rw [hsucc, hc]
    simpa using hu
   | true =>
    simp only [RS]
    have hll : ((List.range i).filter (Dk.isC d.chg)).length ≤ i := Nat.le_trans (List.length_filter_le _ _) (by simp)
    refine hI vP (by omega) 23 (cs := [iv (i : Nat)]) rfl (rv _ _) (by intro u hu; simp at hu; subst hu; rfl) hu (by unfold maxLen; omega) (by omega) hf.size ?_
    intro u' w3 hu' _ hf3
    have hf3' : Fm (fun _ => False) w w3 := hf.trans hf3 (fun _ _ e => e) (fun x hx e => by omega)
    refine hkk _ _ ⟨u', rfl, ?_, h.keep0 hf3', hf3'⟩
    rw [hsucc, hc, if_pos rfl, List.length_append, List.map_append]
    exact hu'
 ·have hie : i = d.cur.length := by omega
  subst hie
  have e1 : decide (((d.cur.length : Nat) : Int) < (d.chg.length : Int)) = false := by rw [decide_eq_false_iff_not]; omega
  simp only [RS, h2.c2, e1]
  exact ⟨hu, hf⟩
theorem lu (hw : d.Wf) {hv : Value} {L : List Int} (hL : CellsAt w hv L.length 1 (L.map iv)) (hLb : L ≠ [] → ∀ x, cd hv = some x → ¬ q.mine b x)
  (hr : ∀ f ∈ L, -9223372036854775808 ≤ f ∧ f ≤ 9223372036854775807) :
  Cl prog 73 [pv b, hv] w fun v w' => v = .tuple #[] ∧ DkAt w' b q (d.crash L) ∧ Fm (q.mine b) w w' := by
 have hn := hw.n1
 have hrk : ∀ i, i ≤ d.cur.length → Dk.rank d.chg i ≤ i := fun i _ => Nat.le_trans (List.length_filter_le _ _) (by simp)
 refine c73 ?_; unfold T73
 refine ⟨fun vs w2 => ∃ (i : Nat), vs = [iv (Dk.rank d.chg i : Nat), iv (i : Nat)] ∧ i ≤ d.cur.length ∧ DkAt w2 b q (d.rmid L i) ∧ Fm (q.mine b) w w2, fun vs _ => (d.cur.length - nth vs 1).toNat, ⟨0, rfl, by omega, by rw [Dk.rmid_zero]; exact h, Fm.refl _ _⟩, ?_⟩
 rintro _ w2 ik ii ⟨i, hvs, hi, h2, hf⟩
 cases hvs
 obtain ⟨l1, l2, l3⟩ := Dk.rmid_len L hw hi
 have hri := hrk i hi
 by_cases hlt : i < d.cur.length
 ·have e1 : decide ((i : Int) < ((d.rmid L i).old.length : Int)) = true := by rw [decide_eq_true_eq]; omega
  have e2 : IntKind.i64.wrap ((i : Int) + 1) = ((i + 1 : Nat) : Int) := by rw [ab] <;> omega
  have hio : i < (d.rmid L i).old.length := by omega
  have hic : i < (d.rmid L i).chg.length := by omega
  have hin : i < (d.rmid L i).cur.length := by omega
  obtain ⟨a1, a2, a3⟩ := Dk.rmid_at L hw hlt
  have hx64 := hw.cur64 hlt
  have hy64 := hw.old64 hlt
  simp only [RS, h2.c0, e1]
  refine bG (fun vs w3 => vs = [iv (Dk.rank d.chg (i + 1) : Nat)] ∧ DkAt w3 b q (d.rmid L (i + 1)) ∧ Fm (q.mine b) w w3) ?_ ?_
  ·rintro _ w3 ⟨rfl, h3, hf3⟩ _
   refine ⟨_, rfl, ?_⟩
   simp only [RS, e2]
   exact ⟨⟨i + 1, rfl, by omega, h3, hf3⟩, by simp only [bM]; omega⟩
  intro kk hkk
  simp only [RS, h2.c2, bD hic, Nat.mul_one, h2.cellC a3]
  cases hc : Dk.isC d.chg i with
  | false =>
   simp only [RS]
   refine hkk _ _ ⟨?_, by rw [Dk.rmid_skip L hw hlt hc]; exact h2, hf⟩
   rw [Dk.rank_succ, hc]; rfl
  | true =>
   simp only [RS]
   have hsucc : Dk.rank d.chg (i + 1) = Dk.rank d.chg i + 1 := by rw [Dk.rank_succ, hc]; rfl
   have hmend : Dk.mend L d i = Dk.torn (Dk.fate L (Dk.rank d.chg i)) (d.cur.getD i []) (d.old.getD i []) := by unfold Dk.mend; rw [hc]; rfl
   have hstep := Dk.rmid_step L hw hlt
   rw [hmend] at hstep
   rw [hsucc, hstep] at hkk
   clear hstep hmend hsucc
   generalize hk : Dk.rank d.chg i = k at hkk hri ⊢
   generalize hX : d.cur.getD i [] = X at *
   generalize hY : d.old.getD i [] = Y at *
   generalize hE : d.rmid L i = E at *
   refine bG (fun vs w3 => w3 = w2 ∧ ∃ f, vs = [iv f] ∧ (-9223372036854775808 ≤ f ∧ f ≤ 9223372036854775807) ∧ Dk.fold1 f = Dk.fate L k) ?_ ?_
   ·rintro _ w3 ⟨rfl, f, rfl, hfin, hff⟩ _
    refine ⟨_, rfl, ?_⟩
    refine bG (fun vs w4 => w4 = w3 ∧ vs = [iv (Dk.fate L k)]) ?_ ?_
    ·rintro _ w4 ⟨rfl, rfl⟩ _
     refine ⟨_, rfl, ?_⟩
     have e3 : IntKind.i64.wrap ((k : Int) + 1) = ((k + 1 : Nat) : Int) := by rw [ab] <;> omega
     have hfp := Dk.fate_pos hr k
     generalize Dk.fate L k = F at hkk hff hfp
     simp only [RS, e3]
     refine bG (fun vs w5 => vs = [] ∧ DkAt w5 b q { E with old := E.old.set i (Dk.torn F X Y) } ∧ Fm (q.mine b) w w5) ?_ ?_
     ·rintro _ w5 ⟨rfl, h5, hf5⟩ _
      refine ⟨rfl, ?_⟩
      have h5d := h5.drew
      have hto : ({ E with old := E.old.set i (Dk.torn F X Y) } : Dk).old[i]? = some (Dk.torn F X Y) := by
       show (E.old.set i _)[i]? = _
       rw [List.getElem?_set, if_pos rfl, if_pos hio]
      have hin5 : i < ({ E with old := E.old.set i (Dk.torn F X Y) } : Dk).cur.length := hin
      have hio5 : i < ({ E with old := E.old.set i (Dk.torn F X Y) } : Dk).old.length := by show i < (E.old.set i _).length; simpa using hio
      simp only [RS, h5.c1, h5.c0, bD hio5, Nat.mul_one, h5.cellO hto, bD hin5, true_and]
      refine h5d.putN hin5 _ ?_
      intro w6 h6 hf6
      have hic6 : i < ({ E with old := E.old.set i (Dk.torn F X Y), cur := E.cur.set i (Dk.torn F X Y) } : Dk).chg.length := hic
      simp only [RS, h6.c2, bD hic6, Nat.mul_one]
      refine h6.putC hic _ ?_
      intro w7 h7 hf7
      refine hkk _ _ ⟨rfl, h7, ?_⟩
      exact ((hf5.trans (Fm.drew (fun _ => False) w5) (U := q.mine b) (fun _ _ e => e) (fun _ _ e => e.elim)).trans hf6 (U := q.mine b) (fun _ _ e => e) (fun _ _ e => e)).trans hf7 (fun _ _ e => e) (fun _ _ e => e)
     ·intro kk2 hkk2
      have q1 := jP (TypeDesc.int .i64) (a := F) (b := 3) hfp.1 (by decide) hfp.2
      have h2d := h2.drew
      have fin : ∀ w5, DkAt w5 b q { E with old := E.old.set i (Dk.torn F X Y) } → Fm (q.mine b) w4.drew w5 → kk2 [] w5 := fun w5 h5 hf5 => hkk2 _ _ ⟨rfl, h5, (hf.trans (Fm.drew (fun _ => False) w4) (U := q.mine b) (fun _ _ e => e) (fun _ _ e => e.elim)).trans hf5 (fun _ _ e => e) (fun _ _ e => e)⟩
      simp only [RS, q1]
      by_cases f1 : F % 3 = 1
      ·have z1 : (F % 3 == 1) = true := by rw [f1]; rfl
       have ht : Dk.torn F X Y = X := by
        have : Dk.kept F = 64 := by unfold Dk.kept; rw [if_neg (by omega), if_pos f1]
        rw [Dk.torn, this, List.take_of_length_le (by omega), List.drop_eq_nil_of_le (by omega), List.append_nil]
       rw [ht] at fin
       simp only [RS, z1, h2.c0, h2.c1, bD hin, Nat.mul_one, h2.cellN a1, bD hio, true_and]
       exact h2d.putO hio _ fin
      ·have z1 : (F % 3 == 1) = false := by simpa using f1
       by_cases f2 : F % 3 = 2
       ·have z2 : (F % 3 == 2) = true := by rw [f2]; rfl
        have q2 := pQ (TypeDesc.int .i64) (a := F) (b := 3) hfp.1 (by decide) hfp.2
        have q3 := jP (TypeDesc.int .i64) (a := F / 3) (b := 65) (by omega) (by decide) (by omega)
        have hke : F / 3 % 65 = (Dk.kept F : Nat) := by
         unfold Dk.kept
         rw [if_neg (by omega), if_neg f1, Int.toNat_of_nonneg (by omega)]
        have hkl := Dk.kept_le F
        have s1 := df (l := X) (i := Dk.kept F) (by omega) .i64
        have s2 := cQ (l := Y) (i := Dk.kept F) (by omega) .i64
        have s3 := kE TypeDesc.string (X.take (Dk.kept F)) (Y.drop (Dk.kept F)) (by simp; omega)
        simp only [RS, z1, z2, q2, q3, hke, h2.c0, h2.c1, bD hin, Nat.mul_one, h2.cellN a1, s1, bD hio, h2.cellO a2, s2, s3, true_and]
        exact h2d.putO hio _ fin
       ·have z2 : (F % 3 == 2) = false := by simpa using f2
        have ht : Dk.torn F X Y = Y := by
         have : Dk.kept F = 0 := by unfold Dk.kept; rw [if_pos (by omega)]
         rw [Dk.torn, this, List.take_zero, List.drop_zero, List.nil_append]
        have hs : E.old.set i Y = E.old := by
         apply List.ext_getElem?; intro j; rw [List.getElem?_set]; split
         ·rename_i e; subst e; first | rw [a2] | rw [if_pos hio, a2]
         ·rfl
        simp only [RS, z1, z2]
        refine hkk2 _ _ ⟨rfl, ?_, hf⟩
        rw [ht, hs]; exact h2
    ·intro kk2 hkk2
     rw [← hff] at hkk2
     unfold Dk.fold1 at hkk2
     by_cases hneg : f < 0
     ·have z1 : decide (f < 0) = true := by simpa using hneg
      have z2 : IntKind.i64.wrap (f + 1) = f + 1 := ab (by omega)
      have z3 : IntKind.i64.wrap (0 - (f + 1)) = -(f + 1) := by rw [ab] <;> omega
      rw [if_pos hneg] at hkk2
      simp only [RS, z1, z2, z3]
      exact hkk2 _ _ ⟨rfl, rfl⟩
     ·have z1 : decide (f < 0) = false := by simpa using hneg
      rw [if_neg hneg] at hkk2
      simp only [RS, z1]
      exact hkk2 _ _ ⟨rfl, rfl⟩
   ·intro kk2 hkk2
    have hL2 := hL.keepAny hf (fun hx x hq => hLb (fun e => hx (by rw [e]; rfl)) x hq)
    simp only [RS, hL2.lenV]
    by_cases hkL : k < L.length
    ·have z1 : decide ((k : Int) < (L.length : Int)) = true := by simpa using hkL
     have hLk : L[k]? = some L[k] := List.getElem?_eq_getElem hkL
     have hin := hr _ (List.getElem_mem hkL)
     generalize L[k] = f at hLk hin
     obtain ⟨ad2, hix2, _, hc2⟩ := hL2.at1 (i := k) (x := iv f) (by rw [List.getElem?_map, hLk]; rfl) .i64
     simp only [RS, z1, hix2, hc2]
     refine hkk2 _ _ ⟨rfl, f, rfl, hin, ?_⟩
     unfold Dk.fate; rw [hLk]
    ·have z1 : decide ((k : Int) < (L.length : Int)) = false := by simpa using hkL
     simp only [RS, z1]
     refine hkk2 _ _ ⟨rfl, 0, rfl, by omega, ?_⟩
     unfold Dk.fate; rw [List.getElem?_eq_none (by omega)]; rfl
 ·have hie : i = d.cur.length := by omega
  subst hie
  have e1 : decide (((d.cur.length : Nat) : Int) < ((d.rmid L d.cur.length).old.length : Int)) = false := by rw [decide_eq_false_iff_not]; omega
  simp only [RS, h2.c0, e1]
  rw [Dk.rmid_end L hw] at h2
  refine h2.putG _ ?_
  intro w3 h3 hf3
  refine h3.putA _ ?_
  intro w4 h4 hf4
  exact ⟨(by trivial), h4, (hf.trans hf3 (U := q.mine b) (fun _ _ e => e) (fun _ _ e => e)).trans hf4 (fun _ _ e => e) (fun _ _ e => e)⟩
end
end Go.Proofs.YthbngnlmgplijaaGreatDoor
