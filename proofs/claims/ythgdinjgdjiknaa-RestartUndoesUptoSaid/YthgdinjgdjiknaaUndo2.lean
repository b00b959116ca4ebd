/- The log that acts lay. -/
import Derived.Test.YthgdinjgdjiknaaUndo1
namespace Go.Proofs.Ythgdinjgdjiknaa
open Go.Al Go.Proofs
set_option linter.unusedVariables false
set_option linter.unusedSimpArgs false
set_option linter.unusedSectionVars false
set_option maxRecDepth 100000

theorem E34u : ElemT Try.prog 34 3 1 8 := elemT_of Try.underlying34 (by kernel_rfl)
theorem E66u : ElemT Try.prog 66 75 16 216 := elemT_of Try.underlying66 (by kernel_rfl)
theorem bs34u (x : Int) (w : World) : (Instr.buildSlice 34 1 #[(0, iv x)]).run Try.prog w = .ok (.slice (some ⟨w.heap.size, 0, none⟩) 1 1) (w.alloc (.cells #[iv x] 3)) := by kernel_rfl
theorem bs66u (r : Rc) (w : World) : (Instr.buildSlice 66 1 #[(0, .agg (rcc r nl nl nl nl nl))]).run Try.prog w = .ok (.slice (some ⟨w.heap.size, 0, none⟩) 1 1) (w.alloc (.cells (rc5 r).toArray 75)) := by kernel_rfl
theorem bld75u (l p x : Int) (w : World) : (Instr.build 75 #[(0, iv l), (1, iv p), (4, iv x)]).run Try.prog w = .ok (.agg (rcc (rcz l p 0 0 x) nl nl nl nl nl)) w := by kernel_rfl
theorem rcc_one (r : Rc) : ∀ u ∈ (rcc r nl nl nl nl nl).toList, u.oneCell' = true := by
  intro u hu
  simp [rcc] at hu
  rcases hu with rfl | rfl | rfl | rfl | rfl | rfl | rfl | rfl | rfl | rfl | rfl | rfl <;> rfl
theorem mk34 (w : World) : (Instr.makeSlice 34 (iv 8) (iv 8)).run Try.prog w = .ok (.slice (some ⟨w.heap.size, 0, none⟩) 8 8) (w.alloc (.cells (List.replicate 8 (iv 0)).toArray 3)) := by
  obtain ⟨i, h1, h2, h3, h4⟩ := info_of (P := Try.prog) (e := 3) (z := iv 0) (n := 1) (b := 8) (by kernel_rfl)
  exact VRow.make Try.underlying34 h1 h2 h3 rfl w 8 (by omega) (by omega)
theorem mk82 (w : World) : (Instr.makeSlice 82 (iv 8) (iv 8)).run Try.prog w = .ok (.slice (some ⟨w.heap.size, 0, none⟩) 8 8) (w.alloc (.cells (List.replicate 8 nl).toArray 34)) := by
  obtain ⟨i, h1, h2, h3, h4⟩ := info_of (P := Try.prog) (e := 34) (z := nl) (n := 1) (b := 24) (by kernel_rfl)
  exact VRow.make Try.underlying82 h1 h2 h3 rfl w 8 (by omega) (by omega)
theorem mk57 (w : World) : (Instr.makeSlice 57 (iv 8) (iv 8)).run Try.prog w = .ok (.slice (some ⟨w.heap.size, 0, none⟩) 8 8) (w.alloc (.cells (List.replicate 8 (.bool false)).toArray 4)) := by
  obtain ⟨i, h1, h2, h3, h4⟩ := info_of (P := Try.prog) (e := 4) (z := .bool false) (n := 1) (b := 1) (by kernel_rfl)
  exact VRow.make Try.underlying57 h1 h2 h3 rfl w 8 (by omega) (by omega)
theorem rowc {w : World} {g : Nat} {l : List Value} {t : TypeId} (h : w.heap[g]? = some (.cells l.toArray t)) {s : Nat} {x : Value} (hs : l[s]? = some x) : w.cell? ⟨g, s, none⟩ = some x := by rw [cell_at h]; simpa using hs
theorem ix8 (g s : Nat) (h : s < 8) : ixV 1 (.slice (some ⟨g, 0, none⟩) 8 8) (iv s) = some (.pointer (some ⟨g, s, none⟩)) := by rw [ixV_at h, add_none]; simp
theorem setA (l : List Value) (s : Nat) (u : Value) : l.toArray.setIfInBounds s u = (l.set s u).toArray := by simp
/-- A row of the call's own, cut. -/
theorem own_hi {w : World} {base : Nat} {e : TypeId} {v : Value} {n : Nat} {xs : List Value} (h : w.ownsRow base e 1 v n xs) {m : Nat} (hm : m ≤ n) (hn : 0 < n) : ∃ v', slV 1 v none (some (iv m)) none = some v' ∧ w.ownsRow base e 1 v' m (xs.take m) ∧ v'.ownBlock = v.ownBlock := by
  have hl := h.1
  rcases h.2 with ⟨rfl, h0⟩ | ⟨g, cap, cur, rfl, hbg, hgg, hnc, hcm, hcs, htake⟩
  · omega
  · refine ⟨.slice (some ⟨g, 0, none⟩) m cap, slV_hi1 (j := m) (by omega) .i64, ⟨by rw [List.length_take]; omega, .inr ⟨g, cap, cur, rfl, hbg, hgg, by omega, hcm, hcs, ?_⟩⟩, rfl⟩
    rw [← htake, Nat.mul_one, Nat.mul_one, List.take_take, Nat.min_eq_left hm]
/-- One more, and where it lies. -/
theorem app_fine {w : World} {base n bytes sz : Nat} {t e : TypeId} {v : Value} {xs : List Value} (E : ElemT Try.prog t e sz bytes) (hsz : 0 < sz) (h : w.ownsRow base e sz v n xs) {b : Nat} {cs : List Value} (hb : w.heap[b]? = some (.cells cs.toArray e)) (hcs : cs.length = sz) (h1 : ∀ u ∈ cs, u.oneCell' = true) (hn : (n + 1) * bytes ≤ 140737488355328) (h63 : n + 1 ≤ maxLen) (hbs : base ≤ w.heap.size) :
    ∃ v' w', (Builtin.append_ #[t, t] t #[v, .slice (some ⟨b, 0, none⟩) 1 1]).run Try.prog w = .ok v' w' ∧ w'.ownsRow base e sz v' (n + 1) (xs ++ cs) ∧ (∀ y, v'.ownBlock = some y → v.ownBlock = some y ∨ w.heap.size ≤ y) ∧ Fm (fun y => v.ownBlock = some y) w w' := by
  obtain ⟨v', w', hr, ho, hc⟩ := append_fine E hsz h t ⟨b, 0, none⟩ 1 1 (by omega) cs (by omega) (fun j u hj => by rw [add_none, Nat.zero_add, cell_at hb]; simpa using hj) h1 h63 hn hbs
  refine ⟨v', w', hr, ho, ?_⟩
  rcases hc with ⟨g, e1, e2, e3⟩ | ⟨g, e1, e2, e3⟩
  · exact ⟨fun y hy => .inl (by rw [e1, ← e2]; exact hy), e3.mono (fun y _ e => by rw [e]; exact e1)⟩
  · exact ⟨fun y hy => .inr (by rw [e1] at hy; cases hy; exact e2), e3.mono (fun _ _ e => e.elim)⟩

structure LgAt (w0 w : World) (g : Nat) (vs : List Value) (out : Value) (σ : LS) : Prop where
  l14 : w.heap[g]? = some (.cells (σ.last.map iv).toArray 3)
  l15 : w.heap[g + 1]? = some (.cells vs.toArray 34)
  l16 : w.heap[g + 2]? = some (.cells (σ.over.map Value.bool).toArray 4)
  nv : vs.length = 8
  n1 : σ.last.length = 8
  n2 : σ.opn.length = 8
  n3 : σ.over.length = 8
  own : ∀ (s : Nat) (v : Value), vs[s]? = some v → w.ownsRow (g + 3) 3 1 v (opnS σ s).length ((opnS σ s).map iv)
  dis : ∀ (s t : Nat) (v u : Value) (b : Nat), vs[s]? = some v → vs[t]? = some u → s ≠ t → v.ownBlock = some b → u.ownBlock ≠ some b
  ot : w.ownsRow (g + 3) 75 16 out σ.out.length (σ.out.flatMap rc5)
  od : ∀ (s : Nat) (v : Value) (b : Nat), vs[s]? = some v → v.ownBlock = some b → out.ownBlock ≠ some b
  fm : Fm (fun _ => False) w0 w
  g0 : w0.heap.size ≤ g
  gw : g + 3 ≤ w.heap.size
section
variable {w0 w w' : World} {g : Nat} {vs : List Value} {out : Value} {σ : LS}
theorem LgAt.keep (h : LgAt w0 w g vs out σ) (hf : Fm (fun _ => False) w w') : LgAt w0 w' g vs out σ where
  l14 := hf.heap h.l14 (fun e => e)
  l15 := hf.heap h.l15 (fun e => e)
  l16 := hf.heap h.l16 (fun e => e)
  nv := h.nv
  n1 := h.n1
  n2 := h.n2
  n3 := h.n3
  own := fun s v hv => own_keep (h.own s v hv) hf (fun _ _ _ _ e => e)
  dis := h.dis
  ot := own_keep h.ot hf (fun _ _ _ _ e => e)
  od := h.od
  fm := Fmf h.fm hf
  g0 := h.g0
  gw := by have := hf.size; have := h.gw; omega
theorem LgAt.c14 (h : LgAt w0 w g vs out σ) {s : Nat} (hs : s < 8) : w.cell? ⟨g, s, none⟩ = some (iv (lastS σ s)) := by
  refine rowc h.l14 ?_
  have : σ.last[s]? = some (lastS σ s) := by
    unfold lastS; rw [List.getD_eq_getElem?_getD, List.getElem?_eq_getElem (by have := h.n1; omega)]; rfl
  rw [List.getElem?_map, this]; rfl
theorem LgAt.c16 (h : LgAt w0 w g vs out σ) {s : Nat} (hs : s < 8) : w.cell? ⟨g + 2, s, none⟩ = some (.bool (overS σ s)) := by
  refine rowc h.l16 ?_
  have : σ.over[s]? = some (overS σ s) := by
    unfold overS; rw [List.getD_eq_getElem?_getD, List.getElem?_eq_getElem (by have := h.n3; omega)]; rfl
  rw [List.getElem?_map, this]; rfl
theorem LgAt.at15 (h : LgAt w0 w g vs out σ) {s : Nat} (hs : s < 8) : ∃ v, vs[s]? = some v ∧ w.cell? ⟨g + 1, s, none⟩ = some v := by
  have hl : s < vs.length := by rw [h.nv]; exact hs
  have hv : vs[s]? = some vs[s] := List.getElem?_eq_getElem hl
  exact ⟨_, hv, rowc h.l15 hv⟩
theorem LgAt.setLast (h : LgAt w0 w g vs out σ) {s : Nat} {x : Int} (h1 : w'.heap[g]? = some (.cells (((σ.last.map iv).toArray).setIfInBounds s (iv x)) 3)) (hf : Fm (· = g) w w') : LgAt w0 w' g vs out ⟨σ.last.set s x, σ.opn, σ.over, σ.out⟩ where
  l14 := by rw [h1, setA, List.map_set]
  l15 := hf.heap h.l15 (fun e => by omega)
  l16 := hf.heap h.l16 (fun e => by omega)
  nv := h.nv
  n1 := by show (σ.last.set s x).length = 8; rw [List.length_set]; exact h.n1
  n2 := h.n2
  n3 := h.n3
  own := fun t v hv => own_keep (h.own t v hv) hf (fun k h1 _ _ e => by omega)
  dis := h.dis
  ot := own_keep h.ot hf (fun k h1 _ _ e => by omega)
  od := h.od
  fm := Fm.own h.fm hf (by rintro y rfl; exact h.g0)
  g0 := h.g0
  gw := by have := hf.size; have := h.gw; omega
theorem LgAt.setOver (h : LgAt w0 w g vs out σ) {s : Nat} {x : Bool} (h1 : w'.heap[g + 2]? = some (.cells (((σ.over.map Value.bool).toArray).setIfInBounds s (.bool x)) 4)) (hf : Fm (· = g + 2) w w') : LgAt w0 w' g vs out ⟨σ.last, σ.opn, σ.over.set s x, σ.out⟩ where
  l14 := hf.heap h.l14 (fun e => by omega)
  l15 := hf.heap h.l15 (fun e => by omega)
  l16 := by rw [h1, setA, List.map_set]
  nv := h.nv
  n1 := h.n1
  n2 := h.n2
  n3 := by show (σ.over.set s x).length = 8; rw [List.length_set]; exact h.n3
  own := fun t v hv => own_keep (h.own t v hv) hf (fun k h1 _ _ e => by omega)
  dis := h.dis
  ot := own_keep h.ot hf (fun k h1 _ _ e => by omega)
  od := h.od
  fm := Fm.own h.fm hf (by rintro y rfl; have := h.g0; omega)
  g0 := h.g0
  gw := by have := hf.size; have := h.gw; omega
theorem getElem_set {α : Type} {l : List α} {s t : Nat} {v u : α} (h : (l.set s v)[t]? = some u) : (t = s ∧ u = v) ∨ (t ≠ s ∧ l[t]? = some u) := by
  rw [List.getElem?_set] at h
  by_cases e : s = t
  · subst e
    rw [if_pos rfl] at h
    split at h
    · cases h; exact .inl ⟨rfl, rfl⟩
    · cases h
  · rw [if_neg e] at h
    exact .inr ⟨fun e' => e e'.symm, h⟩
theorem LgAt.setOpen (h : LgAt w0 w g vs out σ) {s : Nat} (hs : s < 8) {v v' : Value} (hv : vs[s]? = some v) {w1 : World} (hf : Fm (fun b => v.ownBlock = some b) w w1) {o : List Int} (ho : w1.ownsRow (g + 3) 3 1 v' o.length (o.map iv)) (hb : ∀ b, v'.ownBlock = some b → v.ownBlock = some b ∨ w.heap.size ≤ b)
    (h2 : w'.heap[g + 1]? = some (.cells (vs.toArray.setIfInBounds s v') 34)) (hf2 : Fm (· = g + 1) w1 w') : LgAt w0 w' g (vs.set s v') out ⟨σ.last, σ.opn.set s o, σ.over, σ.out⟩ := by
  have hlt := own_lt (h.own s v hv)
  have hne : ∀ y, y < g + 3 → v.ownBlock ≠ some y := fun y hy e => by have := hlt y e; omega
  have hO : ∀ t, opnS ⟨σ.last, σ.opn.set s o, σ.over, σ.out⟩ t = if t = s then o else opnS σ t := fun t => getD_setL _ _ _ _ _ (by rw [h.n2]; exact hs)
  have hlo := own_lt h.ot
  refine ⟨?_, ?_, ?_, ?_, h.n1, ?_, h.n3, ?_, ?_, ?_, ?_, ?_, h.g0, ?_⟩
  · exact hf2.heap (hf.heap h.l14 (hne _ (by omega))) (fun e => by omega)
  · rw [h2, setA]
  · exact hf2.heap (hf.heap h.l16 (hne _ (by omega))) (fun e => by omega)
  · rw [List.length_set]; exact h.nv
  · show (σ.opn.set s o).length = 8; rw [List.length_set]; exact h.n2
  · intro t u hu
    rw [hO]
    rcases getElem_set hu with ⟨rfl, rfl⟩ | ⟨hts, hu⟩
    · rw [if_pos rfl]
      exact own_keep ho hf2 (fun k h1 _ _ e => by omega)
    · rw [if_neg hts]
      exact own_keep (own_keep (h.own t u hu) hf (fun k _ _ hk e => h.dis t s u v k hu hv hts hk e)) hf2 (fun k h1 _ _ e => by omega)
  · intro t1 t2 u1 u2 b hu1 hu2 h12 hb1 hb2
    rcases getElem_set hu1 with ⟨rfl, rfl⟩ | ⟨ht1, q1⟩
    · rcases getElem_set hu2 with ⟨rfl, rfl⟩ | ⟨ht2, hu2⟩
      · exact h12 rfl
      · rcases hb b hb1 with e | e
        · exact h.dis _ _ _ _ b hv hu2 (fun e => h12 e) e hb2
        · have := own_lt (h.own _ _ hu2) b hb2; omega
    · rcases getElem_set hu2 with ⟨rfl, rfl⟩ | ⟨ht2, q2⟩
      · rcases hb b hb2 with e | e
        · exact h.dis _ _ _ _ b q1 hv h12 hb1 e
        · have := own_lt (h.own _ _ q1) b hb1; omega
      · exact h.dis _ _ _ _ b q1 q2 h12 hb1 hb2
  · exact own_keep (own_keep h.ot hf (fun k _ _ hk e => h.od s v k hv e hk)) hf2 (fun k h1 _ _ e => by omega)
  · intro t u b hu hub hbo
    rcases getElem_set hu with ⟨rfl, rfl⟩ | ⟨hts, hu⟩
    · rcases hb b hub with e | e
      · exact h.od _ _ b hv e hbo
      · have := hlo b hbo; omega
    · exact h.od _ _ b hu hub hbo
  · refine Fm.own (Fm.own h.fm hf (fun y hy => ?_)) hf2 (by rintro y rfl; have := h.g0; omega)
    have := hlt y hy; have := h.g0; omega
  · have := hf.size; have := hf2.size; have := h.gw; omega
theorem LgAt.setOut (h : LgAt w0 w g vs out σ) {out' : Value} {r : Rc} (ho : w'.ownsRow (g + 3) 75 16 out' (σ.out.length + 1) (σ.out.flatMap rc5 ++ rc5 r)) (hb : ∀ b, out'.ownBlock = some b → out.ownBlock = some b ∨ w.heap.size ≤ b) (hf : Fm (fun b => out.ownBlock = some b) w w') : LgAt w0 w' g vs out' ⟨σ.last, σ.opn, σ.over, σ.out ++ [r]⟩ := by
  have hlo := own_lt h.ot
  have hne : ∀ y, y < g + 3 → out.ownBlock ≠ some y := fun y hy e => by have := hlo y e; omega
  refine ⟨hf.heap h.l14 (hne _ (by omega)), hf.heap h.l15 (hne _ (by omega)), hf.heap h.l16 (hne _ (by omega)), h.nv, h.n1, h.n2, h.n3, ?_, h.dis, ?_, ?_, ?_, h.g0, ?_⟩
  · exact fun t u hu => own_keep (h.own t u hu) hf (fun k _ _ hk e => h.od t u k hu hk e)
  · show w'.ownsRow _ _ _ _ (σ.out ++ [r]).length _
    rw [List.length_append, List.flatMap_append, List.flatMap_cons, List.flatMap_nil, List.append_nil]
    exact ho
  · intro t u b hu hub hbo
    rcases hb b hbo with e | e
    · exact h.od t u b hu hub e
    · have := own_lt (h.own t u hu) b hub; omega
  · exact Fm.own h.fm hf (fun y hy => by have := hlo y hy; have := h.g0; omega)
  · have := hf.size; have := h.gw; omega
end
theorem bcs_at {w : World} {v : Value} {L : List Act} (h : CellsAt w v L.length 2 (bcs L)) {i : Nat} {a : Act} (ha : L[i]? = some a) : ∃ ad, ixV 2 v (iv i) = some (.pointer (some ad)) ∧ w.cell? ad = some (iv a.1) ∧ w.cell? (ad.add 1) = some (iv a.2) := by
  obtain ⟨ad, hix, _, hc⟩ := h.at (by omega) (List.getElem?_eq_some_iff.1 ha).1 .i64
  obtain ⟨e1, e2⟩ := bcs_get ha
  exact ⟨ad, hix, by have := hc 0 (by omega); rw [add_zero, e1] at this; exact this, by rw [hc 1 (by omega), e2]⟩
theorem slot_rem (x : Int) : (x.tmod 8 < 0 ∧ x.tmod 8 + 8 = (slot x : Int)) ∨ (0 ≤ x.tmod 8 ∧ x.tmod 8 = (slot x : Int)) := by
  unfold slot
  have h1 : x.tmod 8 = x % 8 ∨ x.tmod 8 = x % 8 - 8 := by
    rw [Int.tmod_eq_emod]
    split <;> omega
  have h2 : 0 ≤ x % 8 ∧ x % 8 < 8 := by omega
  rcases h1 with h1 | h1 <;> rw [h1] <;> omega

end Go.Proofs.Ythgdinjgdjiknaa
