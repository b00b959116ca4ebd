/- 'out := []byte(s)', then 'append(out, t...)' again and again: a row of bytes whose end may bear a mark. -/
import Derived.Test.YthbngnlmgplijaaGreatDoorAlBytes
import Derived.Test.YthbngnlmgplijaaGreatDoorAlStru
namespace Go.Al
set_option linter.unusedVariables false
set_option linter.unusedSimpArgs false
set_option linter.unusedSectionVars false

/-- v is a row of the call's own (from block b0 on) that holds B; no cell of it bears a mark. -/
def OutAt (w : World) (b0 : Nat) (e : TypeId) (v : Value) (B : Bs) : Prop :=
  ∃ g cap cur fz, v = .slice (some ⟨g, 0, none⟩) B.length cap ∧ b0 ≤ g ∧ w.heap[g]? = some (.cells cur e fz) ∧ B.length ≤ cap ∧ cap ≤ maxLen ∧ cur.size = cap ∧ cur.toList.take B.length = bc B ∧ (fz = (0, 0) ∨ cap ≤ fz.1)
theorem OutAt.keep {S : Nat → Prop} {w w' : World} {b0 : Nat} {e : TypeId} {v : Value} {B : Bs} (h : OutAt w b0 e v B) (hf : Fm S w w') (hs : ∀ y, b0 ≤ y → y < w.heap.size → ¬ S y) : OutAt w' b0 e v B := by
  obtain ⟨g, cap, cur, fz, h1, h2, h3, h4⟩ := h
  exact ⟨g, cap, cur, fz, h1, h2, hf.heap h3 (hs g h2 (lt_of_heap h3)), h4⟩
/-- '[]byte(s)'. -/
theorem OutAt.new {P : Program} {t e s : TypeId} (B : ByteT P t e s) (w : World) (l : Bs) (hl : l.length ≤ maxLen) {b0 : Nat} (hb : b0 ≤ w.heap.size) : ∃ v w', (convert s t (stv l)).run P w = .ok v w' ∧ OutAt w' b0 e v l ∧ Fm (fun _ => False) w w' := by
  have hr := run_bytes_of_string (P := P) w s t e (str l) B.st B.sl B.u8
  rw [str_size] at hr
  have hge := grownCap_ge w l.length 0 e
  have hle := grownCap_le_maxLen w l.length 0 e hl
  have hz : (bytesRow (str l) (grownCap w l.length 0 e)).size = grownCap w l.length 0 e := by
    unfold bytesRow
    simp only [Array.size_append, Array.size_map, Array.size_replicate]
    have : (str l).data.size = l.length := by simp [str]
    rw [str_size]
    omega
  refine ⟨_, _, hr, ⟨_, _, _, _, rfl, hb, alloc_new w.drew _, hge, hle, hz, ?_, .inr (by rw [hz]; exact Nat.le_refl _)⟩, (Fm.drew _ w).trans (Fm.alloc _ w.drew _) (fun _ _ e => e) (fun _ _ e => e)⟩
  have : (bytesRow (str l) (grownCap w l.length 0 e)).toList = bc l ++ List.replicate (grownCap w l.length 0 e - l.length) (.int .u8 0) := by
    unfold bytesRow
    rw [Array.toList_append, Array.toList_map, Array.toList_replicate, str_size]; rfl
  rw [this, List.take_append_of_le_length (by rw [bc_len]; exact Nat.le_refl _), List.take_of_length_le (by rw [bc_len]; exact Nat.le_refl _)]

/-- Cells are laid ahead of a mark. -/
theorem store_ahead (P : Program) (g o : Nat) (t : TypeId) (fz : Nat × Nat) : ∀ (vs : List Value) (i : Nat) (cur : Array Value) (w : World), w.heap[g]? = some (.cells cur t fz) → (fz = (0, 0) ∨ cur.size ≤ fz.1) → o + i + vs.length ≤ cur.size → (∀ v ∈ vs, v.oneCell' = true) →
    (storeCells ⟨g, o, none⟩ vs i).run P w = .ok () (w.setRow g (cur.toList.take (o + i) ++ vs ++ cur.toList.drop (o + i + vs.length)).toArray)
  | [], i, cur, w, hg, _, _, _ => by
    simp only [storeCells, List.append_nil, List.length_nil, Nat.add_zero, List.take_append_drop, Array.toArray_toList]
    rw [setRow_self w g cur t fz hg]
    rfl
  | v :: rest, i, cur, w, hg, hfz, hl, h1 => by
    have hi : o + i < cur.size := by simp at hl; omega
    have hadd : (⟨g, o, none⟩ : Addr).add i = ⟨g, o + i, none⟩ := by unfold Addr.add; split <;> simp_all
    have hcell : w.cell? ⟨g, o + i, none⟩ = some cur[o + i] := by simp [World.cell?, hg, hi]
    have hfro : w.frozen? ⟨g, o + i, none⟩ = false := by
      obtain ⟨lo, hi'⟩ := fz
      simp only [World.frozen?, hg, Bool.and_eq_false_iff, decide_eq_false_iff_not]
      rcases hfz with h | h
      · cases h; right; omega
      · left
        simp only at h
        omega
    have hst : (store ((⟨g, o, none⟩ : Addr).add i) v).run P w = .ok () (w.setRow g (cur.setIfInBounds (o + i) v)) := by
      rw [hadd, run_store P w _ v _ (h1 v (by simp)), hcell]
      simp [hfro, setCell_eq_setRow w g (o + i) cur t fz v hg]
    have ih := store_ahead P g o t fz rest (i + 1) (cur.setIfInBounds (o + i) v) (w.setRow g (cur.setIfInBounds (o + i) v)) (setRow_heap w g cur _ t _ hg) (by simpa using hfz) (by simp at hl ⊢; omega) (fun x hx => h1 x (by simp [hx]))
    simp only [storeCells, Sem.run_bind, hst, Result.andThen_ok, ih, setRow_setRow]
    congr 3
    have e := list_seg_step cur.toList (o + i) v rest (by simp at hl ⊢; omega)
    simpa [Array.toList_setIfInBounds, Nat.add_assoc] using e

/-- 'append(out, s...)'. -/
theorem OutAt.app {P : Program} {t e s : TypeId} (B : ByteT P t e s) {w : World} {b0 : Nat} {v : Value} {L : Bs} (h : OutAt w b0 e v L) (x : Bs) (ty : TypeId) (hl : L.length + x.length ≤ 100000000000) (hb : b0 ≤ w.heap.size) :
    ∃ v' w', (Builtin.append_ #[t, s] ty #[v, stv x]).run P w = .ok v' w' ∧ OutAt w' b0 e v' (L ++ x) ∧ Fm (fun y => b0 ≤ y) w w' := by
  obtain ⟨i, h1, h2, h3, h4⟩ := B.info
  obtain ⟨g, cap, cur, fz, rfl, hbg, hg, hnc, hcm, hcs, htake, hfz⟩ := h
  have hsx : Lib.strCells (str x) = bc x := rfl
  have hxz : (str x).size = x.length := str_size x
  by_cases hroom : L.length + x.length ≤ cap
  · have hf := Lib.run_firstCells_string (P := P) w 1 (str x)
    rw [hsx, hxz] at hf
    have hst := store_ahead P g L.length e fz (bc x) 0 cur w hg (by rw [hcs]; exact hfz) (by rw [bc_len, hcs]; omega) (bc_one x)
    simp only [Nat.add_zero, bc_len] at hst
    have hr : (Builtin.append_ #[t, s] ty #[.slice (some ⟨g, 0, none⟩) L.length cap, stv x]).run P w = .ok (.slice (some ⟨g, 0, none⟩) (L.length + x.length) cap) (w.setRow g (cur.toList.take L.length ++ bc x ++ cur.toList.drop (L.length + x.length)).toArray) := by
      simp [Builtin.append_, run_underlying B.sl, run_underlying B.st, sizeOf, typeInfo, h1, h3, Builtin.lenOf, str_size, hroom, hf, Addr.add_lit, hst]
    refine ⟨_, _, hr, ⟨g, cap, _, fz, by rw [List.length_append], hbg, setRow_heap w g cur _ e _ hg, by rw [List.length_append]; exact hroom, hcm, ?_, ?_, hfz⟩, ⟨rfl, rfl, rfl, by simp, fun k _ hk => setRow_other w g k _ (fun e => hk (by rw [e]; exact hbg))⟩⟩
    · simp only [List.size_toArray, List.length_append, List.length_take, List.length_drop, Array.length_toList, bc_len]
      omega
    · rw [htake, ← bc_append, List.take_append_of_le_length (by rw [bc_len]; exact Nat.le_refl _), List.take_of_length_le (by rw [bc_len]; exact Nat.le_refl _)]
  · have holds : ∀ j u, (bc L)[j]? = some u → w.cell? ((⟨g, 0, none⟩ : Addr).add j) = some u := by
      intro j u hj
      rw [← htake, List.getElem?_take] at hj
      split at hj
      · rw [Addr.add_lit, cell_at hg]
        simpa using hj
      · cases hj
    have hr := Lib.run_append_grow_string (P := P) w t s ty e i (.int .u8 0) B.sl B.st h1 h2 ⟨g, 0, none⟩ L.length cap (bc L) (by rw [bc_len, h3, Nat.mul_one]) holds (str x) (by rw [hxz]; omega) (by rw [hxz]; omega) (by rw [hxz, h4]; exact growslice_fits (by omega) (by omega))
    rw [hxz, hsx] at hr
    have hge := grownCap_ge w (L.length + x.length) cap e
    have hcm' : grownCap w (L.length + x.length) cap e ≤ maxLen := grownCap_le_maxLen w (L.length + x.length) cap e (by unfold maxLen; omega)
    refine ⟨_, _, hr, ⟨w.heap.size, _, _, (0, 0), by rw [List.length_append], hb, alloc_new w.drew _, by rw [List.length_append]; exact hge, hcm', ?_, ?_, .inl rfl⟩, ⟨rfl, rfl, rfl, by simp, fun k hk _ => (Fm.alloc (fun _ => False) w.drew _).block k hk (fun e => e)⟩⟩
    · have hz1 : (Value.int IntKind.u8 0).cells.size = 1 := rfl
      simp only [Array.size_append, List.size_toArray, size_zeroCells, hz1, bc_len]
      omega
    · simp only [Array.toList_append, List.append_assoc]
      rw [← List.append_assoc, ← bc_append, List.take_append_of_le_length (by rw [bc_len]; exact Nat.le_refl _), List.take_of_length_le (by rw [bc_len]; exact Nat.le_refl _)]
/-- 'string(out)'. -/
theorem OutAt.conv {P : Program} {t e s : TypeId} (B : ByteT P t e s) {w : World} {b0 : Nat} {v : Value} {L : Bs} {e' : TypeId} (h : OutAt w b0 e' v L) : (convert t s v).run P w = .ok (stv L) w := by
  obtain ⟨g, cap, cur, fz, rfl, hbg, hg, hnc, hcm, hcs, htake, hfz⟩ := h
  have hx : BX w g e' L := ⟨cur, fz, hg, htake, by rw [hcs]; exact hnc, hfz.imp id fun h => by omega⟩
  have := hx.conv (P := P) B (o := 0) (n := L.length) (by omega) cap
  rw [List.drop_zero, List.take_length] at this
  exact this

end Go.Al
