/- Rows of the call's own (slices that are appended to), and deleting while ranging. -/
import Derived.Test.YthbngnlmgplijaaGreatDoorAlHeap
import Derived.Laws.OwnMore
namespace Go.Al
set_option linter.unusedVariables false
set_option linter.unusedSimpArgs false
set_option linter.unusedSectionVars false
open Go.RowKit (Below)
open Go.ChangeMaps (setBlock)

/-- What the tables say of a slice type's elements. -/
structure ElemT (P : Program) (t e : TypeId) (sz bytes : Nat) : Prop where
  sl : P.underlying t = some (.slice e)
  info : ∃ i z, P.info? e = some i ∧ i.zero = some z ∧ i.size = sz ∧ i.bytes = bytes ∧ z.cells.size = sz
theorem elemT_of {P : Program} {t e : TypeId} {sz bytes : Nat} (h : P.underlying t = some (.slice e)) (hi : (P.info? e).map (fun i => (i.zero.map (fun z => z.cells.size), i.size, i.bytes)) = some (some sz, sz, bytes)) : ElemT P t e sz bytes := by
  refine ⟨h, ?_⟩
  cases hp : P.info? e with
  | none => rw [hp] at hi; cases hi
  | some i =>
    rw [hp] at hi
    simp only [Option.map_some, Option.some.injEq, Prod.mk.injEq] at hi
    cases hz : i.zero with
    | none => rw [hz] at hi; simp at hi
    | some z => rw [hz] at hi; simp at hi; exact ⟨i, z, rfl, hz, hi.2.1, hi.2.2, hi.1⟩

theorem own_keep {S : Nat → Prop} {w w' : World} {base : Nat} {e : TypeId} {sz : Nat} {v : Value} {n : Nat} {xs : List Value} (h : w.ownsRow base e sz v n xs) (hf : Fm S w w') (hs : ∀ k, base ≤ k → k < w.heap.size → v.ownBlock = some k → ¬ S k) : w'.ownsRow base e sz v n xs := by
  obtain ⟨h1, h2⟩ := h
  refine ⟨h1, ?_⟩
  rcases h2 with h2 | ⟨g, cap, cur, rfl, hb, hg, r⟩
  · exact .inl h2
  · exact .inr ⟨g, cap, cur, rfl, hb, hf.heap hg (hs g hb (lt_of_heap hg) rfl), r⟩
theorem own_base {w : World} {base base' : Nat} {e : TypeId} {sz : Nat} {v : Value} {n : Nat} {xs : List Value} (h : w.ownsRow base e sz v n xs) (hb : base' ≤ base) : w.ownsRow base' e sz v n xs := by
  obtain ⟨h1, h2⟩ := h
  refine ⟨h1, ?_⟩
  rcases h2 with h2 | ⟨g, cap, cur, rfl, hb', r⟩
  · exact .inl h2
  · exact .inr ⟨g, cap, cur, rfl, by omega, r⟩
theorem own_lt {w : World} {base : Nat} {e : TypeId} {sz : Nat} {v : Value} {n : Nat} {xs : List Value} (h : w.ownsRow base e sz v n xs) : ∀ k, v.ownBlock = some k → base ≤ k ∧ k < w.heap.size := h.lt
/-- A row's value: nil, or a slice at the head of a block; its cells. -/
theorem own_cases {w : World} {base : Nat} {e : TypeId} {v : Value} {n : Nat} {xs : List Value} (h : w.ownsRow base e 1 v n xs) : xs.length = n ∧ ((v = .slice none 0 0 ∧ n = 0) ∨ ∃ g cap, v = .slice (some ⟨g, 0, none⟩) n cap ∧ base ≤ g ∧ g < w.heap.size ∧ ∀ j, j < n → w.cell? ⟨g, j, none⟩ = xs[j]?) := by
  have hl := h.1
  rw [Nat.mul_one] at hl
  refine ⟨hl, ?_⟩
  rcases h.2 with h2 | ⟨g, cap, cur, rfl, hb, hg, r⟩
  · exact .inl h2
  · exact .inr ⟨g, cap, rfl, hb, lt_of_heap hg, fun j hj => h.cellAt j (by omega)⟩
theorem own_len {w : World} {base : Nat} {e : TypeId} {v : Value} {n : Nat} {xs : List Value} (h : w.ownsRow base e 1 v n xs) : lenV v = some (.int .i64 n) := by
  rcases (own_cases h).2 with ⟨rfl, rfl⟩ | ⟨g, cap, rfl, _⟩ <;> rfl
theorem own_maxLen {w : World} {base : Nat} {e : TypeId} {v : Value} {n : Nat} {xs : List Value} {sz : Nat} (h : w.ownsRow base e sz v n xs) : n ≤ maxLen := by
  rcases h.2 with ⟨_, rfl⟩ | ⟨g, cap, cur, rfl, hb, hg, h1, h2, _⟩
  · simp [maxLen]
  · omega

theorem append_row {P : Program} {t e : TypeId} {sz bytes : Nat} (E : ElemT P t e sz bytes) (hsz : 0 < sz) {w : World} {base : Nat} {v : Value} {n : Nat} {xs : List Value} (h : w.ownsRow base e sz v n xs) (ty : TypeId)
    (a : Addr) (m c : Nat) (news : List Value) (hl : news.length = m * sz) (hnews : ∀ j u, news[j]? = some u → w.cell? (a.add j) = some u) (h1 : ∀ u ∈ news, u.oneCell' = true)
    (h63 : n + m ≤ maxLen) (hbytes : (n + m) * bytes ≤ 140737488355328) (hbase : base ≤ w.heap.size) :
    ∃ v' w', (Builtin.append_ #[t, t] ty #[v, .slice (some a) m c]).run P w = .ok v' w' ∧ w'.ownsRow base e sz v' (n + m) (xs ++ news) ∧ Fm (fun b => base ≤ b) w w' ∧ (v' = .slice none 0 0 ↔ v = .slice none 0 0 ∧ m = 0) := by
  obtain ⟨i, z, hi, hz, hs, hb, hzs⟩ := E.info
  obtain ⟨v', w', hr, ho, hg, hn⟩ := run_append_own (P := P) w base t ty e i z sz bytes E.sl hi hz hs hb hzs hsz v n xs h a m c news hl hnews h1 h63 hbytes hbase
  exact ⟨v', w', hr, ho, Fm.grown hg (fun k hk _ => (h.lt k hk).1), hn⟩

/-- 'append(out, x)'. -/
theorem append_one {P : Program} {t e : TypeId} {bytes : Nat} (E : ElemT P t e 1 bytes) {w : World} {base : Nat} {v x : Value} {n : Nat} {xs : List Value} {k : KV} (ty : TypeId)
    (hbs : (Instr.buildSlice t 1 #[(0, x)]).run P w = .ok (.slice (some ⟨w.heap.size, 0, none⟩) 1 1) (w.alloc (.cells #[x] e))) (hx : x.oneCell' = true)
    (h : w.ownsRow base e 1 v n xs) (h63 : n + 1 ≤ maxLen) (hbytes : (n + 1) * bytes ≤ 140737488355328) (hbase : base ≤ w.heap.size)
    (hk : ∀ v' w', w'.ownsRow base e 1 v' (n + 1) (xs ++ [x]) → v' ≠ .slice none 0 0 → Fm (fun b => base ≤ b) w w' → k v' w') :
    RunS P (Instr.buildSlice t 1 #[(0, x)]) w (fun t1 w1 => RunS P (Builtin.append_ #[t, t] ty #[v, t1]) w1 k) := by
  refine RunS_ok hbs ?_
  obtain ⟨v', w', hr, ho, hf, hn⟩ := append_row E (by omega) (h.alloc (.cells #[x] e)) ty ⟨w.heap.size, 0, none⟩ 1 1 [x] rfl (fun j u hj => by
    cases j with
    | zero =>
      simp at hj; subst hj
      rw [add_zero, cell_at (alloc_new w _)]; rfl
    | succ j => simp at hj) (fun u hu => by simp at hu; subst hu; exact hx) h63 hbytes (by rw [alloc_size]; omega)
  exact RunS_ok hr (hk v' w' ho (fun e => by have := (hn.1 e).2; omega) ((Fm.alloc _ w _).trans hf (fun _ _ h => h) (fun _ _ h => h)))

variable {α β : Type} [DecidableEq α]

/-- The pair that has come out is deleted: what is left is left. -/
theorem range_delete {P : Program} {t kt et : TypeId} {kv : α → Value} (K : KeyT P t kt et kv) {vv : β → Value} {w : World} {r b : Nat} {D left : List (α × β)} (h : RangeAt w r b kv vv D left) (hn : (D.map (·.1)).Nodup) (a : α) (ha : a ∉ left.map (·.1)) (ty u : TypeId) :
    ∃ w', (Builtin.delete_ #[t, u] ty #[.map (some b), kv a]).run P w = .ok (.tuple #[]) w' ∧ RangeAt w' r b kv vv (delD D a) left ∧ Fm (· = b) w w' ∧ w'.heap.size = w.heap.size := by
  have hrb := h.ne
  obtain ⟨es, c, since, seen, hb, hr, he, hbn, hlt, hsc, hl⟩ := h.ex
  obtain ⟨d, hd, _, hc⟩ := K.now
  unfold Builtin.delete_
  simp only [List.getElem?_toArray, List.getElem?_cons_zero, List.getElem?_cons_succ, Sem.run_bind, run_underlying K.map, Result.andThen_ok, run_getObj_map hb, hc]
  rcases findKey_run K a w he with ⟨g1, g2⟩ | ⟨j, u, g1, g2, g3, g4, g5, g6⟩
  · rw [g2]
    simp only [Result.andThen_ok, Sem.run_bind, run_setObj_map hb, Sem.run_pure]
    exact ⟨_, rfl, ⟨es, c, since, seen, setBlock_at hb, (Fm.setBlock (S := (· = b)) w b _ rfl).heap hr hrb, by rw [delD_none D a g1]; exact he, hbn, hlt, hsc, hl⟩, Fm.setBlock _ _ _ rfl, setBlock_size _ _ _⟩
  · rw [g2]
    simp only [Result.andThen_ok, Sem.run_bind, run_setObj_map hb, Sem.run_pure]
    have hle : (es.eraseIdxIfInBounds j).toList = es.toList.eraseIdx j := by simp
    refine ⟨_, rfl, ⟨es.eraseIdxIfInBounds j, c, since, seen, setBlock_at hb, (Fm.setBlock (S := (· = b)) w b _ rfl).heap hr hrb, ?_, ?_, ?_, hsc, ?_⟩, Fm.setBlock _ _ _ rfl, setBlock_size _ _ _⟩
    · rw [hle, delD_at D a j g5 g6, ← eraseIdx_mp, ← eraseIdx_mp, he]
    · rw [hle, ← eraseIdx_mp]; exact hbn.sublist (List.eraseIdx_sublist _ _)
    · intro e he'
      rw [hle] at he'
      exact hlt e (List.mem_of_mem_eraseIdx he')
    · rw [← hl]
      congr 1
      unfold leftOf
      simp only [Array.toList_filter, hle]
      obtain ⟨e, hej, hek⟩ : ∃ e, es.toList[j]? = some e ∧ e.key = kv a := by
        rw [Option.map_eq_some_iff] at g4; exact g4
      have hout : (!seen.contains e.born) = false := by
        cases hs : (!seen.contains e.born) with
        | false => rfl
        | true =>
          exfalso
          have hm : e ∈ (leftOf es seen).toList := by
            unfold leftOf; simp only [Array.toList_filter, List.mem_filter]; exact ⟨List.mem_of_getElem? hej, hs⟩
          have : (e.key, e.val) ∈ left.map (fun p => (kv p.1, vv p.2)) := by rw [← hl]; exact List.mem_map.2 ⟨e, hm, rfl⟩
          obtain ⟨p, hp, hpe⟩ := List.mem_map.1 this
          simp only [Prod.mk.injEq] at hpe
          exact ha (by rw [← K.inj _ _ (hpe.1.trans hek)]; exact List.mem_map.2 ⟨p, hp, rfl⟩)
      have key : ∀ (l : List MapEntry) (j : Nat), l[j]? = some e → (l.eraseIdx j).filter (fun x => !seen.contains x.born) = l.filter (fun x => !seen.contains x.born) := by
        intro l
        induction l with
        | nil => intro j h; simp at h
        | cons x l ih =>
          intro j h
          cases j with
          | zero => simp at h; subst h; simp only [List.eraseIdx_cons_zero, List.filter_cons, hout, Bool.false_eq_true, if_false]
          | succ j => simp only [List.eraseIdx_cons_succ, List.filter_cons, ih j (by simpa using h)]
      exact key _ _ hej

end Go.Al
