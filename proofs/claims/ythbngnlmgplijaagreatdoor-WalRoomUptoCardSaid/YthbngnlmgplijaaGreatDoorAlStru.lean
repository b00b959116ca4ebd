/- Parts of a block read and laid at once. -/
import Derived.Test.YthbngnlmgplijaaGreatDoorAlSl
namespace Go.Al
set_option linter.unusedVariables false
set_option linter.unusedSimpArgs false
set_option linter.unusedSectionVars false

theorem cellsV_at {w : World} {b : Nat} {cs : Array Value} {t : TypeId} {fz : Nat × Nat} (h : w.heap[b]? = some (.cells cs t fz)) {o n : Nat} {us : Array Value} (hn : o + n ≤ cs.size) (he : (cs.toList.drop o).take n = us.toList) : cellsV w ⟨b, o, none⟩ n = some (.agg us) := by
  have key : ∀ (k i : Nat), o + i + k ≤ cs.size → cellsAt w ⟨b, o, none⟩ i k = some ((cs.toList.drop (o + i)).take k) := by
    intro k
    induction k with
    | zero => intro i hi; simp [cellsAt]
    | succ k ih =>
      intro i hi
      have hlt : o + i < cs.toList.length := by rw [Array.length_toList]; omega
      have hc : w.cell? ((⟨b, o, none⟩ : Addr).add i) = some (cs.toList[o + i]) := by rw [add_none, cell_at h]; simp
      simp only [cellsAt, hc, ih (i + 1) (by omega), Option.map_some]
      rw [List.drop_eq_getElem_cons hlt, List.take_succ_cons]; rfl
  unfold cellsV
  rw [key n 0 (by omega)]
  simp only [Nat.add_zero, he, Option.map_some]


/-- A row just laid is the call's own. -/
theorem own_alloc {w : World} {e : TypeId} {l : List Value} (hl : l.length ≤ maxLen) {base : Nat} (hb : base ≤ w.heap.size) : (w.alloc (.cells l.toArray e)).ownsRow base e 1 (.slice (some ⟨w.heap.size, 0, none⟩) l.length l.length) l.length l :=
  ⟨by simp, .inr ⟨w.heap.size, l.length, l.toArray, rfl, hb, alloc_new _ _, Nat.le_refl _, hl, by simp, by simp⟩⟩
theorem own_neB {w : World} {base : Nat} {e t : TypeId} {sz : Nat} {v : Value} {n : Nat} {xs : List Value} {x : Nat} {cs : Array Value} {fz : Nat × Nat} (ho : w.ownsRow base e sz v n xs) (hx : w.heap[x]? = some (.cells cs t fz)) (hne : e ≠ t) : v.ownBlock ≠ some x := by
  intro hk
  rcases ho.2 with ⟨rfl, _⟩ | ⟨g, c, cur, rfl, _, hg, _⟩
  · simp [Value.ownBlock] at hk
  simp [Value.ownBlock] at hk
  subst hk
  rw [hx] at hg
  cases hg
  exact hne rfl
/-- 'append(out, src...)': nothing but out's own block turns. -/
theorem append_srcO {P : Program} {t e : TypeId} {sz bytes : Nat} (E : ElemT P t e sz bytes) (hsz : 0 < sz) {w : World} {base : Nat} {v u : Value} {n m : Nat} {xs news : List Value} (h : w.ownsRow base e sz v n xs) (hu : CellsAt w u m sz news) (h1 : ∀ u ∈ news, u.oneCell' = true) (ty : TypeId)
    (h63 : n + m ≤ maxLen) (hbytes : (n + m) * bytes ≤ 140737488355328) (hbase : base ≤ w.heap.size) :
    ∃ v' w', (Builtin.append_ #[t, t] ty #[v, u]).run P w = .ok v' w' ∧ w'.ownsRow base e sz v' (n + m) (xs ++ news) ∧ Fm (fun b => v.ownBlock = some b) w w' := by
  obtain ⟨i, z, hi, hz, hs, hb, hzs⟩ := E.info
  obtain ⟨⟨a, c, rfl, hn1, hn2, h3, h4⟩, hl⟩ := hu
  cases a with
  | some ad =>
    obtain ⟨v', w', hr, ho, hg, hn⟩ := run_append_own (P := P) w base t ty e i z sz bytes E.sl hi hz hs hb hzs hsz v n xs h ad m c news hl (fun j x hj => by obtain ⟨ad', e, hc⟩ := h4 j x hj; cases e; exact hc) h1 h63 hbytes hbase
    exact ⟨v', w', hr, ho, Fm.grown (S := fun b => v.ownBlock = some b) hg (fun k hk _ => hk)⟩
  | none =>
    obtain ⟨rfl, rfl⟩ := h3 rfl
    rw [Nat.zero_mul] at hl
    obtain rfl := List.eq_nil_of_length_eq_zero hl
    exact ⟨v, w, run_append_owned_none (P := P) (w := w) base t ty e i sz E.sl hi v n xs h, by simpa using h, Fm.refl _ _⟩

end Go.Al
