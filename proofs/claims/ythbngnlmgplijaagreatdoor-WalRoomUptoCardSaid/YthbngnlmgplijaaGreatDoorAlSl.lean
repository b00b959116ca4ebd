/- Slices as runs of cells: read, cut, appended. -/
import Derived.Test.YthbngnlmgplijaaGreatDoorAlRow
import Derived.Laws.MakeOwn
import Derived.Laws.CopyRow
namespace Go.Al
set_option linter.unusedVariables false
set_option linter.unusedSimpArgs false
set_option linter.unusedSectionVars false
open Go.RowKit (Below)

/-- v is a slice of n elements of sz cells, which hold xs. -/
structure CellsAt (w : World) (v : Value) (n sz : Nat) (xs : List Value) : Prop where
  ex : ∃ a c, v = .slice a n c ∧ n ≤ c ∧ c ≤ maxLen ∧ (a = none → n = 0 ∧ c = 0) ∧ ∀ j u, xs[j]? = some u → ∃ ad, a = some ad ∧ w.cell? (ad.add j) = some u
  len : xs.length = n * sz

def blockOf : Value → Option Nat
  | .slice (some a) _ _ => some a.block
  | _ => none

theorem add_block (a : Addr) (n : Nat) : (a.add n).block = a.block := by
  unfold Addr.add; split <;> rfl

theorem CellsAt.of_own {w : World} {base : Nat} {e : TypeId} {sz : Nat} {v : Value} {n : Nat} {xs : List Value} (h : w.ownsRow base e sz v n xs) : CellsAt w v n sz xs := by
  refine ⟨?_, h.1⟩
  rcases h.2 with ⟨rfl, rfl⟩ | ⟨g, cap, cur, rfl, hb, hg, hnc, hcm, hcs, ht⟩
  · have hl := h.1
    rw [Nat.zero_mul] at hl
    have hx := List.eq_nil_of_length_eq_zero hl
    exact ⟨none, 0, rfl, Nat.le_refl _, by simp [maxLen], fun _ => ⟨rfl, rfl⟩, fun j u hj => by rw [hx] at hj; simp at hj⟩
  · refine ⟨some ⟨g, 0, none⟩, cap, rfl, hnc, hcm, fun e => (by cases e), fun j u hj => ⟨_, rfl, ?_⟩⟩
    have hjl : j < n * sz := by rw [← h.1]; exact (List.getElem?_eq_some_iff.1 hj).1
    rw [add_none, Nat.zero_add, h.cellAt j hjl, hj]
theorem CellsAt.keep {S : Nat → Prop} {w w' : World} {v : Value} {n sz : Nat} {xs : List Value} (h : CellsAt w v n sz xs) (hf : Fm S w w') (hs : ∀ g, blockOf v = some g → ¬ S g) : CellsAt w' v n sz xs := by
  obtain ⟨⟨a, c, rfl, h1, h2, h3, h4⟩, hl⟩ := h
  refine ⟨⟨a, c, rfl, h1, h2, h3, fun j u hj => ?_⟩, hl⟩
  obtain ⟨ad, rfl, hc⟩ := h4 j u hj
  exact ⟨ad, rfl, hf.cell' hc (by rw [add_block]; exact hs _ rfl)⟩
theorem CellsAt.keepAny {S : Nat → Prop} {w w' : World} {v : Value} {n sz : Nat} {xs : List Value} (h : CellsAt w v n sz xs) (hf : Fm S w w') (hs : xs ≠ [] → ∀ g, blockOf v = some g → ¬ S g) : CellsAt w' v n sz xs := by
  by_cases hx : xs = []
  · obtain ⟨⟨a, c, rfl, h1, h2, h3, h4⟩, hl⟩ := h
    refine ⟨⟨a, c, rfl, h1, h2, h3, fun j u hj => ?_⟩, hl⟩
    rw [hx] at hj; simp at hj
  · exact h.keep hf (hs hx)
/-- A slice that is not empty lies in a block that is there. -/
theorem CellsAt.blt {w : World} {v : Value} {n sz : Nat} {xs : List Value} (h : CellsAt w v n sz xs) (hx : xs ≠ []) : ∀ g, blockOf v = some g → g < w.heap.size := by
  obtain ⟨⟨a, c, rfl, h1, h2, h3, h4⟩, hl⟩ := h
  intro g hg
  cases xs with
  | nil => exact absurd rfl hx
  | cons x xs =>
    obtain ⟨ad, rfl, hc⟩ := h4 0 x rfl
    have : ad.block = g := by simpa [blockOf] using hg
    subst this
    rw [add_zero] at hc
    unfold World.cell? at hc
    cases hb : w.heap[ad.block]? with
    | none => simp [hb] at hc
    | some o => exact (Array.getElem?_eq_some_iff.1 hb).1
theorem CellsAt.lt {w : World} {v : Value} {n sz : Nat} {xs : List Value} (h : CellsAt w v n sz xs) : n ≤ maxLen := by
  obtain ⟨⟨a, c, rfl, h1, h2, _⟩, hl⟩ := h; omega
theorem CellsAt.lenV {w : World} {v : Value} {n sz : Nat} {xs : List Value} (h : CellsAt w v n sz xs) : lenV v = some (.int .i64 n) := by
  obtain ⟨⟨a, c, rfl, _⟩, _⟩ := h; rfl
/-- Element i is there. -/
theorem CellsAt.at {w : World} {v : Value} {n sz : Nat} {xs : List Value} (h : CellsAt w v n sz xs) (hsz : 0 < sz) {i : Nat} (hi : i < n) (k : IntKind) : ∃ ad, ixV sz v (.int k i) = some (.pointer (some ad)) ∧ blockOf v = some ad.block ∧ ∀ j, j < sz → w.cell? (ad.add j) = xs[i * sz + j]? := by
  obtain ⟨⟨a, c, rfl, h1, h2, h3, h4⟩, hl⟩ := h
  have hlt : ∀ j, j < sz → i * sz + j < xs.length := fun j hj => by
    rw [hl]
    have : (i + 1) * sz ≤ n * sz := Nat.mul_le_mul_right _ hi
    rw [Nat.succ_mul] at this; omega
  obtain ⟨ad, rfl, _⟩ := h4 (i * sz + 0) _ (List.getElem?_eq_getElem (hlt 0 hsz))
  refine ⟨_, ixV_at hi, by rw [add_block]; rfl, fun j hj => ?_⟩
  obtain ⟨ad', e, hc⟩ := h4 (i * sz + j) _ (List.getElem?_eq_getElem (hlt j hj))
  cases e
  rw [add_add, hc, List.getElem?_eq_getElem (hlt j hj)]
theorem CellsAt.at1 {w : World} {v : Value} {n : Nat} {xs : List Value} (h : CellsAt w v n 1 xs) {i : Nat} {x : Value} (hi : xs[i]? = some x) (k : IntKind) : ∃ ad, ixV 1 v (.int k i) = some (.pointer (some ad)) ∧ blockOf v = some ad.block ∧ w.cell? ad = some x := by
  have hlt : i < n := by have := (List.getElem?_eq_some_iff.1 hi).1; rw [h.len] at this; omega
  obtain ⟨ad, h1, h2, h3⟩ := h.at (by omega) hlt k
  have := h3 0 (by omega)
  rw [add_zero, Nat.mul_one, Nat.add_zero, hi] at this
  exact ⟨ad, h1, h2, this⟩

theorem bnd_at {y d i : Nat} (h : i ≤ y) (k : IntKind) : bnd y d (some (.int k i)) = some i := by
  have : bnd y d (some (.int k i)) = if 0 ≤ (i : Int) ∧ (i : Int) ≤ y then some (i : Int).toNat else none := rfl
  rw [this, if_pos ⟨by omega, by omega⟩]; simp
/-- 's[:i]'. -/
theorem CellsAt.hi {w : World} {v : Value} {n sz : Nat} {xs : List Value} (h : CellsAt w v n sz xs) {i : Nat} (hi : i ≤ n) (k : IntKind) : ∃ v', slV sz v none (some (.int k i)) none = some v' ∧ CellsAt w v' i sz (xs.take (i * sz)) ∧ (∀ g, blockOf v' = some g → blockOf v = some g) := by
  obtain ⟨⟨a, c, rfl, h1, h2, h3, h4⟩, hl⟩ := h
  have hv : slV sz (.slice a n c) none (some (.int k i)) none = some (.slice a i c) := by
    have e1 : bnd c n (some (.int k i)) = some i := bnd_at (by omega) k
    have e2 : bnd c c none = some c := rfl
    have e3 : bnd i 0 none = some 0 := rfl
    simp only [slV, bndH, e1, e2, e3, Option.bind_some, Option.map_some, Nat.zero_mul, Nat.sub_zero]
    congr 2
    split
    · rfl
    · cases a with
      | none => rfl
      | some a => rfl
  refine ⟨_, hv, ⟨⟨a, c, rfl, by omega, h2, fun e => ⟨by have := h3 e; omega, (h3 e).2⟩, fun j u hj => h4 j u ?_⟩, ?_⟩, ?_⟩
  · rw [List.getElem?_take] at hj; split at hj
    · exact hj
    · cases hj
  · rw [List.length_take, hl, Nat.min_eq_left (Nat.mul_le_mul_right _ hi)]
  · intro g hg; cases a <;> exact hg
/-- 's[i:]'. -/
theorem CellsAt.lo {w : World} {v : Value} {n sz : Nat} {xs : List Value} (h : CellsAt w v n sz xs) {i : Nat} (hi : i ≤ n) (k : IntKind) : ∃ v', slV sz v (some (.int k i)) none none = some v' ∧ CellsAt w v' (n - i) sz (xs.drop (i * sz)) ∧ (∀ g, blockOf v' = some g → blockOf v = some g) := by
  obtain ⟨⟨a, c, rfl, h1, h2, h3, h4⟩, hl⟩ := h
  have hv : slV sz (.slice a n c) (some (.int k i)) none none = some (.slice (if c = i then a else a.map (fun b => Addr.add b (i * sz))) (n - i) (c - i)) := by
    have e1 : bnd n 0 (some (.int k i)) = some i := bnd_at hi k
    have e2 : bnd c c none = some c := rfl
    simp only [slV, bndH, e1, e2, Option.bind_some, Option.map_some]
  refine ⟨_, hv, ⟨⟨_, _, rfl, by omega, by omega, fun e => ?_, fun j u hj => ?_⟩, ?_⟩, ?_⟩
  · have : a = none := by
      split at e
      · exact e
      · cases a <;> simp at e; rfl
    have := h3 this; omega
  · rw [List.getElem?_drop] at hj
    obtain ⟨ad, rfl, hc⟩ := h4 _ u hj
    have hlt := (List.getElem?_eq_some_iff.1 hj).1
    rw [hl] at hlt
    have hne : c ≠ i := by
      rintro rfl
      have : n = c := by omega
      subst this; omega
    rw [if_neg hne]
    exact ⟨_, rfl, by rw [add_add]; exact hc⟩
  · rw [List.length_drop, hl, Nat.sub_mul]
  · intro g hg
    cases a with
    | none => split at hg <;> exact hg
    | some a =>
      split at hg
      · exact hg
      · rw [← hg]; show some a.block = some (a.add (i * sz)).block; rw [add_block]

/-- 'append(out, src...)'. -/
theorem append_src {P : Program} {t e : TypeId} {sz bytes : Nat} (E : ElemT P t e sz bytes) (hsz : 0 < sz) {w : World} {base : Nat} {v u : Value} {n m : Nat} {xs news : List Value} (h : w.ownsRow base e sz v n xs) (hu : CellsAt w u m sz news) (h1 : ∀ u ∈ news, u.oneCell' = true) (ty : TypeId)
    (h63 : n + m ≤ maxLen) (hbytes : (n + m) * bytes ≤ 140737488355328) (hbase : base ≤ w.heap.size) :
    ∃ v' w', (Builtin.append_ #[t, t] ty #[v, u]).run P w = .ok v' w' ∧ w'.ownsRow base e sz v' (n + m) (xs ++ news) ∧ Fm (fun b => base ≤ b) w w' ∧ (v' = .slice none 0 0 ↔ v = .slice none 0 0 ∧ m = 0) := by
  obtain ⟨⟨a, c, rfl, hn1, hn2, h3, h4⟩, hl⟩ := hu
  cases a with
  | some ad =>
    exact append_row E hsz h ty ad m c news hl (fun j x hj => by obtain ⟨ad', e, hc⟩ := h4 j x hj; cases e; exact hc) h1 h63 hbytes hbase
  | none =>
    obtain ⟨rfl, rfl⟩ := h3 rfl
    rw [Nat.zero_mul] at hl
    obtain rfl := List.eq_nil_of_length_eq_zero hl
    obtain ⟨i, z, hi, hz, hs, hb, hzs⟩ := E.info
    refine ⟨v, w, run_append_owned_none (P := P) (w := w) base t ty e i sz E.sl hi v n xs h, by simpa using h, Fm.refl _ _, by simp⟩

/-- 'append(out, x)', x of sz cells. -/
theorem append_el {P : Program} {t e : TypeId} {sz bytes : Nat} (E : ElemT P t e sz bytes) (hsz : 0 < sz) {w : World} {base : Nat} {v x : Value} {n : Nat} {xs : List Value} {k : KV} (ty : TypeId) {cs : List Value} (hcs : cs.length = sz)
    (hbs : (Instr.buildSlice t 1 #[(0, x)]).run P w = .ok (.slice (some ⟨w.heap.size, 0, none⟩) 1 1) (w.alloc (.cells cs.toArray e))) (hx : ∀ u ∈ cs, u.oneCell' = true)
    (h : w.ownsRow base e sz v n xs) (h63 : n + 1 ≤ maxLen) (hbytes : (n + 1) * bytes ≤ 140737488355328) (hbase : base ≤ w.heap.size)
    (hk : ∀ v' w', w'.ownsRow base e sz v' (n + 1) (xs ++ cs) → v' ≠ .slice none 0 0 → Fm (fun b => base ≤ b) w w' → k v' w') :
    RunS P (Instr.buildSlice t 1 #[(0, x)]) w (fun t1 w1 => RunS P (Builtin.append_ #[t, t] ty #[v, t1]) w1 k) := by
  refine RunS_ok hbs ?_
  obtain ⟨v', w', hr, ho, hf, hn⟩ := append_row E hsz (h.alloc (.cells cs.toArray e)) ty ⟨w.heap.size, 0, none⟩ 1 1 cs (by omega) (fun j u hj => by
    rw [add_none, Nat.zero_add, cell_at (alloc_new w _)]; simpa using hj) hx h63 hbytes (by rw [alloc_size]; omega)
  exact RunS_ok hr (hk v' w' ho (fun e => by have := (hn.1 e).2; omega) ((Fm.alloc _ w _).trans hf (fun _ _ h => h) (fun _ _ h => h)))

theorem cellsV_2 {w : World} {a : Addr} {x y : Value} (h0 : w.cell? a = some x) (h1 : w.cell? (a.add 1) = some y) : cellsV w a 2 = some (.agg #[x, y]) := by
  have h0' : w.cell? (a.add 0) = some x := h0
  simp [cellsV, cellsAt, h0', h1]
theorem cellsV_3 {w : World} {a : Addr} {x y z : Value} (h0 : w.cell? a = some x) (h1 : w.cell? (a.add 1) = some y) (h2 : w.cell? (a.add 2) = some z) : cellsV w a 3 = some (.agg #[x, y, z]) := by
  have h0' : w.cell? (a.add 0) = some x := h0
  simp [cellsV, cellsAt, h0', h1, h2]

theorem setCell_at {w : World} {b : Nat} {cs : Array Value} {t : TypeId} {fz : Nat × Nat} (h : w.heap[b]? = some (.cells cs t fz)) (j : Nat) (u : Value) : (w.setCell ⟨b, j, none⟩ u).heap[b]? = some (.cells (cs.setIfInBounds j u) t fz) := by
  simp [World.setCell, Array.getElem?_modify, h]
theorem frozen_at {w : World} {b : Nat} {cs : Array Value} {t : TypeId} (h : w.heap[b]? = some (.cells cs t)) (j : Nat) : w.frozen? ⟨b, j, none⟩ = false := by
  simp [World.frozen?, h]
/-- A store into a block that is not frozen. -/
theorem St_blk {w : World} {b j : Nat} {cs : Array Value} {t : TypeId} {u : Value} {k : KV} (hb : w.heap[b]? = some (.cells cs t)) (hj : j < cs.size) (hu : u.oneCell' = true) (h : ∀ w', w'.heap[b]? = some (.cells (cs.setIfInBounds j u) t) → w'.heap.size = w.heap.size → Fm (· = b) w w' → k undef w') : St 1 w (.pointer (some ⟨b, j, none⟩)) u k := by
  have hc : w.cell? ⟨b, j, none⟩ = some cs[j] := by rw [cell_at hb]; simp [hj]
  exact St_one hu hc (frozen_at hb j) (h _ (setCell_at hb j u) (by simp [World.setCell]) (Fm.setCell w ⟨b, j, none⟩ u rfl))
def ov : Array Value → Nat → List Value → Array Value
  | cs, _, [] => cs
  | cs, i, v :: l => ov (cs.setIfInBounds i v) (i + 1) l
theorem stC_blk {b o : Nat} {t : TypeId} : ∀ (l : List Value) (i : Nat) (w : World) (cs : Array Value), w.heap[b]? = some (.cells cs t) → o + i + l.length ≤ cs.size → (∀ u ∈ l, u.oneCell' = true) →
    ∃ w', stC ⟨b, o, none⟩ i l w = some w' ∧ w'.heap[b]? = some (.cells (ov cs (o + i) l) t) ∧ w'.heap.size = w.heap.size ∧ Fm (· = b) w w'
  | [], i, w, cs, hb, _, _ => ⟨w, rfl, hb, rfl, Fm.refl _ _⟩
  | v :: l, i, w, cs, hb, hl, h1 => by
    simp only [List.length_cons] at hl
    have hc : w.cell? ⟨b, o + i, none⟩ = some (cs[o + i]'(by omega)) := by rw [cell_at hb]; simp
    obtain ⟨w', e1, e2, e3, e4⟩ := stC_blk (b := b) (o := o) l (i + 1) (w.setCell ⟨b, o + i, none⟩ v) (cs.setIfInBounds (o + i) v) (setCell_at hb (o + i) v) (by rw [Array.size_setIfInBounds]; omega) (fun u hu => h1 u (by simp [hu]))
    refine ⟨w', ?_, e2, by rw [e3]; simp [World.setCell], (Fm.setCell (S := (· = b)) w ⟨b, o + i, none⟩ v rfl).trans e4 (fun _ _ e => e) (fun _ _ e => e)⟩
    simp only [stC, h1 v (by simp), cond_true, add_none, hc, frozen_at hb (o + i), cond_false]
    exact e1
/-- A store of many cells into a block that is not frozen. -/
theorem St_blkN {w : World} {b o n : Nat} {cs : Array Value} {t : TypeId} {us : Array Value} {k : KV} (hb : w.heap[b]? = some (.cells cs t)) (hn : us.size = n) (hj : o + n ≤ cs.size) (hu : ∀ u ∈ us.toList, u.oneCell' = true) (h : ∀ w', w'.heap[b]? = some (.cells (ov cs o us.toList) t) → w'.heap.size = w.heap.size → Fm (· = b) w w' → k undef w') : St n w (.pointer (some ⟨b, o, none⟩)) (.agg us) k := by
  obtain ⟨w', e1, e2, e3, e4⟩ := stC_blk (o := o) us.toList 0 w cs hb (by rw [Array.length_toList]; omega) hu
  refine ⟨?_⟩
  have hc : (Value.agg us).cells = us := rfl
  simp only [St0, hc, hn, Nat.beq_refl, cond_true, e1]
  exact h w' e2 e3 e4
theorem own_one {w : World} {base : Nat} {e : TypeId} {sz : Nat} {v : Value} {n : Nat} {xs : List Value} (h : w.ownsRow base e sz v n xs) : v.oneCell' = true := by
  rcases h.2 with ⟨rfl, _⟩ | ⟨g, cap, cur, rfl, _⟩ <;> rfl

/-- Rows of other elements lie apart. -/
theorem own_apart {w : World} {b1 b2 : Nat} {e1 e2 : TypeId} {s1 s2 : Nat} {v1 v2 : Value} {n1 n2 : Nat} {x1 x2 : List Value} (h1 : w.ownsRow b1 e1 s1 v1 n1 x1) (h2 : w.ownsRow b2 e2 s2 v2 n2 x2) (he : e1 ≠ e2) : ∀ k, v1.ownBlock = some k → v2.ownBlock ≠ some k := by
  intro k hk1 hk2
  rcases h1.2 with ⟨rfl, _⟩ | ⟨g, c, cur, rfl, _, hg, _⟩
  · simp [Value.ownBlock] at hk1
  rcases h2.2 with ⟨rfl, _⟩ | ⟨g', c', cur', rfl, _, hg', _⟩
  · simp [Value.ownBlock] at hk2
  simp [Value.ownBlock] at hk1 hk2
  subst hk1 hk2
  rw [hg] at hg'
  cases hg'
  exact he rfl
/-- 'append(out, x)': nothing but out's own block turns. -/
theorem append_el' {P : Program} {t e : TypeId} {sz bytes : Nat} (E : ElemT P t e sz bytes) (hsz : 0 < sz) {w : World} {base : Nat} {v x : Value} {n : Nat} {xs : List Value} {k : KV} (ty : TypeId) {cs : List Value} (hcs : cs.length = sz)
    (hbs : (Instr.buildSlice t 1 #[(0, x)]).run P w = .ok (.slice (some ⟨w.heap.size, 0, none⟩) 1 1) (w.alloc (.cells cs.toArray e))) (hx : ∀ u ∈ cs, u.oneCell' = true)
    (h : w.ownsRow base e sz v n xs) (h63 : n + 1 ≤ maxLen) (hbytes : (n + 1) * bytes ≤ 140737488355328) (hbase : base ≤ w.heap.size)
    (hk : ∀ v' w', w'.ownsRow base e sz v' (n + 1) (xs ++ cs) → v' ≠ .slice none 0 0 → Fm (fun b => v.ownBlock = some b) w w' → k v' w') :
    RunS P (Instr.buildSlice t 1 #[(0, x)]) w (fun t1 w1 => RunS P (Builtin.append_ #[t, t] ty #[v, t1]) w1 k) := by
  refine RunS_ok hbs ?_
  obtain ⟨i, z, hi, hz, hs, hb, hzs⟩ := E.info
  obtain ⟨v', w', hr, ho, hg, hn⟩ := run_append_own (P := P) (w.alloc (.cells cs.toArray e)) base t ty e i z sz bytes E.sl hi hz hs hb hzs hsz v n xs (h.alloc (.cells cs.toArray e)) ⟨w.heap.size, 0, none⟩ 1 1 cs (by omega) (fun j u hj => by
    rw [add_none, Nat.zero_add, cell_at (alloc_new w _)]; simpa using hj) hx h63 hbytes (by rw [alloc_size]; omega)
  exact RunS_ok hr (hk v' w' ho (fun e => by have := (hn.1 e).2; omega) ((Fm.alloc _ w _).trans (Fm.grown (S := fun b => v.ownBlock = some b) hg (fun k hk _ => hk)) (fun _ _ h => h) (fun _ _ h => h)))

/-- 'append', with what becomes of the block: it grows where it is, or a new one is laid. -/
theorem append_fine {P : Program} {t e : TypeId} {sz bytes : Nat} (E : ElemT P t e sz bytes) (hsz : 0 < sz) {w : World} {base : Nat} {v : Value} {n : Nat} {xs : List Value} (h : w.ownsRow base e sz v n xs) (ty : TypeId)
    (a : Addr) (m c : Nat) (hm : 0 < m) (news : List Value) (hl : news.length = m * sz) (hnews : ∀ j u, news[j]? = some u → w.cell? (a.add j) = some u) (h1 : ∀ u ∈ news, u.oneCell' = true)
    (h63 : n + m ≤ maxLen) (hbytes : (n + m) * bytes ≤ 140737488355328) (hbase : base ≤ w.heap.size) :
    ∃ v' w', (Builtin.append_ #[t, t] ty #[v, .slice (some a) m c]).run P w = .ok v' w' ∧ w'.ownsRow base e sz v' (n + m) (xs ++ news) ∧
      ((∃ g, v.ownBlock = some g ∧ v'.ownBlock = some g ∧ Fm (· = g) w w') ∨ (∃ g, v'.ownBlock = some g ∧ w.heap.size ≤ g ∧ Fm (fun _ => False) w w')) := by
  obtain ⟨i, z, hi, hz, hs, hb, hzs⟩ := E.info
  obtain ⟨v', w', hr, ho, hg, hn⟩ := run_append_own (P := P) w base t ty e i z sz bytes E.sl hi hz hs hb hzs hsz v n xs h a m c news hl hnews h1 h63 hbytes hbase
  refine ⟨v', w', hr, ho, ?_⟩
  unfold maxLen at h63
  rcases h.2 with ⟨rfl, rfl⟩ | ⟨g, cap, cur, rfl, hbg, hgg, hnc, hcm, hcs, htake⟩
  · have hr2 := run_append_nil (P := P) w t ty e i z E.sl hi hz a m c news (by rw [hs]; exact hl) hnews (by omega) (by omega) (by rw [hb]; rw [Nat.zero_add] at hbytes; omega)
    rw [hr] at hr2
    cases hr2
    exact .inr ⟨w.heap.size, rfl, Nat.le_refl _, (Fm.drew _ w).trans (Fm.alloc _ w.drew _) (fun _ _ e => e) (fun _ _ e => e)⟩
  · by_cases hroom : n + m ≤ cap
    · have hfit : n * i.size + news.length ≤ cur.size := by rw [hl, hcs, hs, ← Nat.add_mul]; exact Nat.mul_le_mul_right _ hroom
      have hr2 := run_append_room (P := P) w t ty e i E.sl hi g n cap cur hgg a m c news (by rw [hs]; exact hl) hnews h1 hroom hfit
      rw [hr] at hr2
      cases hr2
      exact .inl ⟨g, rfl, rfl, Fm.grown hg (fun k hk _ => by cases hk; rfl)⟩
    · have holds : ∀ j u, xs[j]? = some u → w.cell? ((⟨g, 0, none⟩ : Addr).add j) = some u := h.cells (g := g) rfl
      have hr2 := run_append_grow (P := P) w t ty e i z E.sl hi hz ⟨g, 0, none⟩ n cap xs (by rw [hs]; exact h.1) holds a m c news (by rw [hs]; exact hl) hnews (by omega) (by omega) (by rw [hb]; exact growslice_fits (by omega) hbytes)
      rw [hr] at hr2
      cases hr2
      exact .inr ⟨w.heap.size, rfl, Nat.le_refl _, (Fm.drew _ w).trans (Fm.alloc _ w.drew _) (fun _ _ e => e) (fun _ _ e => e)⟩
/-- 'append(out, x)', x of sz cells, with what becomes of the block. -/
theorem append_elF {P : Program} {t e : TypeId} {sz bytes : Nat} (E : ElemT P t e sz bytes) (hsz : 0 < sz) {w : World} {base : Nat} {v x : Value} {n : Nat} {xs : List Value} {k : KV} (ty : TypeId) {cs : List Value} (hcs : cs.length = sz)
    (hbs : (Instr.buildSlice t 1 #[(0, x)]).run P w = .ok (.slice (some ⟨w.heap.size, 0, none⟩) 1 1) (w.alloc (.cells cs.toArray e))) (hx : ∀ u ∈ cs, u.oneCell' = true)
    (h : w.ownsRow base e sz v n xs) (h63 : n + 1 ≤ maxLen) (hbytes : (n + 1) * bytes ≤ 140737488355328) (hbase : base ≤ w.heap.size)
    (hk : ∀ v' w', w'.ownsRow base e sz v' (n + 1) (xs ++ cs) → ((∃ g, v.ownBlock = some g ∧ v'.ownBlock = some g ∧ Fm (· = g) w w') ∨ (∃ g, v'.ownBlock = some g ∧ w.heap.size ≤ g ∧ Fm (fun _ => False) w w')) → k v' w') :
    RunS P (Instr.buildSlice t 1 #[(0, x)]) w (fun t1 w1 => RunS P (Builtin.append_ #[t, t] ty #[v, t1]) w1 k) := by
  refine RunS_ok hbs ?_
  have hfa := Fm.alloc (fun _ => False) w (.cells cs.toArray e)
  obtain ⟨v', w', hr, ho, hc⟩ := append_fine E hsz (h.alloc (.cells cs.toArray e)) ty ⟨w.heap.size, 0, none⟩ 1 1 (by omega) cs (by omega) (fun j u hj => by
    rw [add_none, Nat.zero_add, cell_at (alloc_new w _)]; simpa using hj) hx h63 hbytes (by rw [alloc_size]; omega)
  refine RunS_ok hr (hk v' w' ho ?_)
  rcases hc with ⟨g, h1, h2, h3⟩ | ⟨g, h1, h2, h3⟩
  · exact .inl ⟨g, h1, h2, hfa.trans h3 (fun _ _ e => e.elim) (fun _ _ e => e)⟩
  · rw [alloc_size] at h2
    exact .inr ⟨g, h1, by omega, hfa.trans h3 (fun _ _ e => e) (fun _ _ e => e)⟩

/-- Block g is a row of values. -/
def VRow (w : World) (g : Nat) (e : TypeId) (xs : List Value) : Prop := w.heap[g]? = some (.cells xs.toArray e)
theorem VRow.keep {S : Nat → Prop} {w w' : World} {g : Nat} {e : TypeId} {l : List Value} (h : VRow w g e l) (hf : Fm S w w') (hs : ¬ S g) : VRow w' g e l := hf.heap h hs
theorem VRow.lt {w : World} {g : Nat} {e : TypeId} {l : List Value} (h : VRow w g e l) : g < w.heap.size := lt_of_heap h
theorem VRow.cell {w : World} {g : Nat} {e : TypeId} {l : List Value} (h : VRow w g e l) (i : Nat) : w.cell? ⟨g, i, none⟩ = l[i]? := by
  rw [cell_at h, List.getElem?_toArray]
theorem VRow.put {w : World} {g : Nat} {e : TypeId} {l : List Value} (h : VRow w g e l) {i : Nat} (hi : i < l.length) {u : Value} (hu : u.oneCell' = true) {k : KV}
    (hk : ∀ w', VRow w' g e (l.set i u) → w'.heap.size = w.heap.size → Fm (· = g) w w' → k undef w') : St 1 w (.pointer (some ⟨g, i, none⟩)) u k := by
  refine St_blk h (by rw [List.size_toArray]; exact hi) hu fun w' h1 h2 h3 => hk w' ?_ h2 h3
  unfold VRow
  rw [h1]
  congr 2
  apply Array.ext'
  simp only [Array.toList_setIfInBounds]
/-- The head of block g holds xs. -/
def PRow (w : World) (g : Nat) (e : TypeId) (xs : List Value) : Prop := ∃ ys, VRow w g e (xs ++ ys)
theorem PRow.keep {S : Nat → Prop} {w w' : World} {g : Nat} {e : TypeId} {l : List Value} (h : PRow w g e l) (hf : Fm S w w') (hs : ¬ S g) : PRow w' g e l := by
  obtain ⟨ys, h⟩ := h; exact ⟨ys, h.keep hf hs⟩
theorem PRow.lt {w : World} {g : Nat} {e : TypeId} {l : List Value} (h : PRow w g e l) : g < w.heap.size := by obtain ⟨ys, h⟩ := h; exact h.lt
theorem PRow.cell {w : World} {g : Nat} {e : TypeId} {l : List Value} (h : PRow w g e l) {i : Nat} {x : Value} (hi : l[i]? = some x) : w.cell? ⟨g, i, none⟩ = some x := by
  obtain ⟨ys, h⟩ := h
  rw [h.cell, List.getElem?_append_left (List.getElem?_eq_some_iff.1 hi).1, hi]
theorem PRow.put {w : World} {g : Nat} {e : TypeId} {l : List Value} (h : PRow w g e l) {i : Nat} (hi : i < l.length) {u : Value} (hu : u.oneCell' = true) {k : KV}
    (hk : ∀ w', PRow w' g e (l.set i u) → w'.heap.size = w.heap.size → Fm (· = g) w w' → k undef w') : St 1 w (.pointer (some ⟨g, i, none⟩)) u k := by
  obtain ⟨ys, h⟩ := h
  refine h.put (by simp; omega) hu fun w' h1 h2 h3 => hk w' ⟨ys, ?_⟩ h2 h3
  rw [List.set_append_left _ _ hi] at h1; exact h1
theorem PRow.of_own {w : World} {base : Nat} {e : TypeId} {v : Value} {n : Nat} {xs : List Value} (h : w.ownsRow base e 1 v n xs) (hn : n ≠ 0) : ∃ g cap, v = .slice (some ⟨g, 0, none⟩) n cap ∧ base ≤ g ∧ v.ownBlock = some g ∧ n ≤ cap ∧ PRow w g e xs := by
  rcases h.2 with ⟨_, h2⟩ | ⟨g, cap, cur, rfl, hb, hg, h1, h2, h3, h4⟩
  · exact absurd h2 hn
  · refine ⟨g, cap, rfl, hb, rfl, h1, cur.toList.drop (n * 1), ?_⟩
    unfold VRow
    rw [hg, ← h4, List.take_append_drop]
theorem info_of {P : Program} {e : TypeId} {z : Value} {n b : Nat} (h : (P.info? e).map (fun i => (i.zero, i.size, i.bytes)) = some (some z, n, b)) : ∃ i, P.info? e = some i ∧ i.zero = some z ∧ i.size = n ∧ i.bytes = b := by
  cases hp : P.info? e with
  | none => rw [hp] at h; cases h
  | some i =>
    rw [hp] at h
    simp only [Option.map_some, Option.some.injEq, Prod.mk.injEq] at h
    exact ⟨i, rfl, h⟩
theorem VRow.make {P : Program} {t e : TypeId} {i : TypeInfo} {z : Value} (ht : P.underlying t = some (.slice e)) (hi : P.info? e = some i) (hz : i.zero = some z) (hs : i.size = 1) (hc : z.cells = #[z]) (w : World) (n : Nat) (hb : i.bytes * n ≤ 281474976710656) (h : n ≤ 9223372036854775807) :
    (Instr.makeSlice t (.int .i64 n) (.int .i64 n)).run P w = .ok (.slice (some ⟨w.heap.size, 0, none⟩) n n) (w.alloc (.cells (List.replicate n z).toArray e)) := by
  have hb' : (i.bytes : Int) * (n : Int) ≤ 281474976710656 := by
    have : ((i.bytes * n : Nat) : Int) ≤ 281474976710656 := by omega
    rwa [Int.natCast_mul] at this
  have hr := run_make (P := P) w t e i z ht hi hz .i64 .i64 n n (by omega) (Int.le_refl _) hb' (by omega)
  rw [hr]
  congr 3
  simp only [Int.toNat_natCast]
  congr 1
  rw [hs, Nat.mul_one, hc]
  apply Array.ext'
  apply List.ext_getElem?
  intro j
  simp only [madeCells, Array.toList_map, Array.toList_range, List.getElem?_map, List.getElem?_replicate]
  have hz' : ∀ q, (#[z] : Array Value)[q % (#[z] : Array Value).size]! = z := by
    intro q
    have : (#[z] : Array Value).size = 1 := rfl
    rw [this, Nat.mod_one]; rfl
  by_cases hj : j < n
  · rw [if_pos hj, List.getElem?_range hj]; simp [Nat.mod_one]
  · rw [if_neg hj, List.getElem?_eq_none (by simpa using hj)]; rfl
/-- 'copy(b, c)', rows of values. -/
theorem VRow.copy {P : Program} {t e : TypeId} (ht : P.underlying t = some (.slice e)) (hs : (P.info? e).map (·.size) = some 1) {w : World} {g g' : Nat} {e' : TypeId} {l l' : List Value} (h : VRow w g e l) (h' : VRow w g' e' l') (hl : l.length = l'.length) (h1 : ∀ v ∈ l', v.oneCell' = true) (c c' : Nat) (ty : TypeId) :
    ∃ w', (Builtin.copy_ #[t, t] ty #[.slice (some ⟨g, 0, none⟩) l.length c, .slice (some ⟨g', 0, none⟩) l'.length c']).run P w = .ok (goInt l'.length) w' ∧ VRow w' g e l' ∧ w'.heap.size = w.heap.size ∧ Fm (· = g) w w' := by
  have hr := run_copy_row (P := P) w t t ty e g 0 l.length c ⟨g', 0, none⟩ l'.length c' _ e l' ht hs h (by rw [hl]; exact (Nat.min_self _).symm) (fun j v hj => by
    rw [add_none, Nat.zero_add, h'.cell]; exact hj) (by rw [List.size_toArray]; omega) h1
  refine ⟨_, hr, ?_, by simp, ⟨rfl, rfl, rfl, by simp, fun b hb hs => setRow_other w g b _ hs⟩⟩
  show (w.setRow g _).heap[g]? = _
  rw [setRow_heap w g _ _ e _ h]
  congr 2
  simp only [List.take_zero, List.nil_append, Nat.zero_add]
  rw [List.drop_eq_nil_of_le (by omega), List.append_nil]

theorem cellsAt_blk {w : World} {b : Nat} {cs : Array Value} {t : TypeId} {fz : Nat × Nat} (h : w.heap[b]? = some (.cells cs t fz)) : ∀ (k i : Nat), i + k ≤ cs.size → cellsAt w ⟨b, 0, none⟩ i k = some ((cs.toList.drop i).take k)
  | 0, i, _ => by simp [cellsAt]
  | k + 1, i, hi => by
    have hlt : i < cs.toList.length := by rw [Array.length_toList]; omega
    have hc : w.cell? ((⟨b, 0, none⟩ : Addr).add i) = some (cs.toList[i]) := by rw [add_none, Nat.zero_add, cell_at h]; simp
    simp only [cellsAt, hc, cellsAt_blk h k (i + 1) (by omega), Option.map_some]
    rw [List.drop_eq_getElem_cons hlt, List.take_succ_cons]
theorem cellsV_blk {w : World} {b : Nat} {cs : Array Value} {t : TypeId} {fz : Nat × Nat} (h : w.heap[b]? = some (.cells cs t fz)) {n : Nat} (hn : cs.size = n) : cellsV w ⟨b, 0, none⟩ n = some (.agg cs) := by
  unfold cellsV
  rw [cellsAt_blk h n 0 (by omega)]
  simp only [List.drop_zero, Option.map_some]
  rw [List.take_of_length_le (by rw [Array.length_toList]; omega)]
theorem resV_blk {P : Program} {f : Fr} {w : World} {a : Nat} {t ty : TypeId} {g n : Nat} {cs : Array Value} {fz : Nat × Nat} (hf : f a = .pointer (some ⟨g, 0, none⟩)) (hA : aggB P t = some true) (hS : sizeB P t = some n) (hb : w.heap[g]? = some (.cells cs ty fz)) (hn : cs.size = n) : resV P f w (.cell a t) = some (.agg cs) := by
  have h := cellsAt_blk hb n 0 (by omega)
  rw [List.drop_zero, List.take_of_length_le (by rw [Array.length_toList]; omega)] at h
  simp only [resV, hf, hA, hS, h, Option.map_some]
/-- All the cells of a block are laid anew. -/
theorem St_all {w : World} {b n : Nat} {cs : Array Value} {t : TypeId} {us : Array Value} {k : KV} (hb : w.heap[b]? = some (.cells cs t)) (hc : cs.size = n) (hn : us.size = n) (hu : ∀ u ∈ us.toList, u.oneCell' = true) (h : ∀ w', w'.heap[b]? = some (.cells us t) → w'.heap.size = w.heap.size → Fm (· = b) w w' → k undef w') : St n w (.pointer (some ⟨b, 0, none⟩)) (.agg us) k := by
  refine St_blkN hb hn (by omega) hu fun w' h1 h2 h3 => h w' ?_ h2 h3
  rw [h1]
  congr 2
  have key : ∀ (l : List Value) (cs : Array Value) (o : Nat), o + l.length = cs.size → (ov cs o l).toList = cs.toList.take o ++ l := by
    intro l
    induction l with
    | nil => intro cs o ho; simp only [ov, List.append_nil]; rw [List.take_of_length_le (by rw [Array.length_toList]; simp at ho; omega)]
    | cons v l ih =>
      intro cs o ho
      simp only [List.length_cons] at ho
      rw [ov, ih _ (o + 1) (by rw [Array.size_setIfInBounds]; omega), Array.toList_setIfInBounds]
      have hlt : o < cs.toList.length := by rw [Array.length_toList]; omega
      rw [List.take_set, List.take_add_one, List.getElem?_eq_getElem hlt]
      simp only [Option.toList_some]
      rw [List.set_append_right _ _ (by rw [List.length_take]; omega), List.length_take, Nat.min_eq_left (by omega), Nat.sub_self, List.set_cons_zero, List.append_assoc]; rfl
  apply Array.ext'
  have := key us.toList cs 0 (by rw [Array.length_toList]; omega)
  simpa using this

end Go.Al
