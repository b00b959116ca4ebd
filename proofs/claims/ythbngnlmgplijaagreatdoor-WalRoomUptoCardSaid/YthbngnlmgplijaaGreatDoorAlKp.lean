/- Bytes that an object keeps: a nil row, or the head of a block; 'append(b, s...)', 'b[i:j]'. -/
import Derived.Test.YthbngnlmgplijaaGreatDoorAlOut
namespace Go.Al
set_option linter.unusedVariables false
set_option linter.unusedSimpArgs false
set_option linter.unusedSectionVars false

def KpAt (w : World) (e : TypeId) (v : Value) (B : Bs) : Prop :=
  (v = .slice none 0 0 ∧ B = []) ∨ ∃ g cap cur, v = .slice (some ⟨g, 0, none⟩) B.length cap ∧ w.heap[g]? = some (.cells cur e) ∧ B.length ≤ cap ∧ cap ≤ maxLen ∧ cap ≤ cur.size ∧ cur.toList.take B.length = bc B
theorem KpAt.nil (w : World) (e : TypeId) : KpAt w e (.slice none 0 0) [] := .inl ⟨rfl, rfl⟩
theorem KpAt.of_own {w : World} {base : Nat} {e : TypeId} {v : Value} {B : Bs} {n : Nat} (h : w.ownsRow base e 1 v n (bc B)) : KpAt w e v B := by
  have hl := h.1
  rw [bc_len, Nat.mul_one] at hl
  subst hl
  rcases h.2 with ⟨rfl, h0⟩ | ⟨g, cap, cur, rfl, _, hg, hn, hc, hs, ht⟩
  · exact .inl ⟨rfl, List.eq_nil_of_length_eq_zero h0⟩
  · rw [Nat.mul_one] at hs ht
    exact .inr ⟨g, cap, cur, rfl, hg, hn, hc, by omega, ht⟩
theorem KpAt.keep {S : Nat → Prop} {w w' : World} {e : TypeId} {v : Value} {B : Bs} (h : KpAt w e v B) (hf : Fm S w w') (hs : ∀ y, v.ownBlock = some y → ¬ S y) : KpAt w' e v B := by
  rcases h with h | ⟨g, cap, cur, rfl, hg, h⟩
  · exact .inl h
  · exact .inr ⟨g, cap, cur, rfl, hf.heap hg (hs g rfl), h⟩
theorem KpAt.lt {w : World} {e : TypeId} {v : Value} {B : Bs} (h : KpAt w e v B) : ∀ y, v.ownBlock = some y → y < w.heap.size := by
  intro y hy
  rcases h with ⟨rfl, _⟩ | ⟨g, cap, cur, rfl, hg, h⟩
  · cases hy
  · cases hy; exact lt_of_heap hg
theorem KpAt.one {w : World} {e : TypeId} {v : Value} {B : Bs} (h : KpAt w e v B) : v.oneCell' = true := by
  rcases h with ⟨rfl, _⟩ | ⟨g, cap, cur, rfl, hg, h⟩ <;> rfl
theorem KpAt.lenV {w : World} {e : TypeId} {v : Value} {B : Bs} (h : KpAt w e v B) : lenV v = some (.int .i64 B.length) := by
  rcases h with ⟨rfl, rfl⟩ | ⟨g, cap, cur, rfl, hg, h⟩ <;> rfl
theorem KpAt.len {w : World} {e : TypeId} {v : Value} {B : Bs} (h : KpAt w e v B) : B.length ≤ maxLen := by
  rcases h with ⟨rfl, rfl⟩ | ⟨g, cap, cur, rfl, hg, h1, h2, h3⟩
  · simp [maxLen]
  · omega
theorem KpAt.neT {w : World} {e t : TypeId} {v : Value} {B : Bs} (h : KpAt w e v B) {x : Nat} {cs : Array Value} {fz : Nat × Nat} (hx : w.heap[x]? = some (.cells cs t fz)) (hne : e ≠ t) : v.ownBlock ≠ some x := by
  intro hk
  rcases h with ⟨rfl, _⟩ | ⟨g, cap, cur, rfl, hg, h⟩
  · cases hk
  · cases hk
    rw [hx] at hg
    cases hg
    exact hne rfl
theorem KpAt.neM {w : World} {e : TypeId} {v : Value} {B : Bs} (h : KpAt w e v B) {x : Nat} {es : Array MapEntry} {c : Nat} (hx : w.heap[x]? = some (.map es c)) : v.ownBlock ≠ some x := by
  intro hk
  rcases h with ⟨rfl, _⟩ | ⟨g, cap, cur, rfl, hg, h⟩
  · cases hk
  · cases hk
    rw [hx] at hg
    cases hg
/-- 'append(b, s...)'. -/
theorem KpAt.app {P : Program} {t e s : TypeId} (B : ByteT P t e s) {w : World} {v : Value} {L : Bs} (h : KpAt w e v L) (x : Bs) (ty : TypeId) (hl : L.length + x.length ≤ 100000000000) :
    ∃ v' w', (Builtin.append_ #[t, s] ty #[v, stv x]).run P w = .ok v' w' ∧ KpAt w' e v' (L ++ x) ∧ Fm (fun y => v.ownBlock = some y) w w' ∧ (∀ y, v'.ownBlock = some y → v.ownBlock = some y ∨ w.heap.size ≤ y) := by
  rcases h with ⟨rfl, rfl⟩ | ⟨g, cap, cur, rfl, hg, hnc, hcm, hcs, htake⟩
  · obtain ⟨v', w', hr, ho, hf, _⟩ := append_text B (n := 0) (l := []) (World.ownsRow_nil w w.heap.size e 1) x ty (by simp at hl; omega) (Nat.le_refl _)
    refine ⟨v', w', hr, KpAt.of_own ho, hf, fun y hy => .inr ?_⟩
    rcases ho.2 with ⟨rfl, _⟩ | ⟨g, cap, cur, rfl, hb, _⟩
    · cases hy
    · cases hy; exact hb
  obtain ⟨i, h1, h2, h3, h4⟩ := B.info
  have hsx : Lib.strCells (str x) = bc x := rfl
  have hxz : (str x).size = x.length := str_size x
  by_cases hroom : L.length + x.length ≤ cap
  · have hf := Lib.run_firstCells_string (P := P) w 1 (str x)
    rw [hsx, hxz] at hf
    have hst := store_ahead P g L.length e (0, 0) (bc x) 0 cur w hg (.inl rfl) (by rw [bc_len]; omega) (bc_one x)
    simp only [Nat.add_zero, bc_len] at hst
    have hr : (Builtin.append_ #[t, s] ty #[.slice (some ⟨g, 0, none⟩) L.length cap, stv x]).run P w = .ok (.slice (some ⟨g, 0, none⟩) (L.length + x.length) cap) (w.setRow g (cur.toList.take L.length ++ bc x ++ cur.toList.drop (L.length + x.length)).toArray) := by
      simp [Builtin.append_, run_underlying B.sl, run_underlying B.st, sizeOf, typeInfo, h1, h3, Builtin.lenOf, str_size, hroom, hf, Addr.add_lit, hst]
    refine ⟨_, _, hr, .inr ⟨g, cap, _, by rw [List.length_append], setRow_heap w g cur _ e _ hg, by rw [List.length_append]; exact hroom, hcm, ?_, ?_⟩, ⟨rfl, rfl, rfl, by simp, fun k _ hk => setRow_other w g k _ (fun e => hk (by rw [e]; rfl))⟩, fun y hy => .inl hy⟩
    · simp only [List.size_toArray, List.length_append, List.length_take, List.length_drop, Array.length_toList, bc_len]
      omega
    · rw [htake, ← bc_append, List.take_append_of_le_length (by rw [bc_len]; exact Nat.le_refl _), List.take_of_length_le (by rw [bc_len]; exact Nat.le_refl _)]
  · have holds : ∀ j u, (bc L)[j]? = some u → w.cell? ((⟨g, 0, none⟩ : Addr).add j) = some u := by
      intro j u hj
      rw [← htake, List.getElem?_take] at hj
      split at hj
      · rw [Addr.add_lit, cell_at hg]
        simpa using hj
      · cases hj
    have hr := Lib.run_append_grow_string (P := P) w t s ty e i (.int .u8 0) B.sl B.st h1 h2 ⟨g, 0, none⟩ L.length cap (bc L) (by rw [bc_len, h3, Nat.mul_one]) holds (str x) (by rw [hxz]; omega) (by rw [hxz]; omega) (by rw [hxz, h4]; exact growslice_fits (by omega) (by omega))
    rw [hxz, hsx] at hr
    have hge := grownCap_ge w (L.length + x.length) cap e
    have hcm' : grownCap w (L.length + x.length) cap e ≤ maxLen := grownCap_le_maxLen w (L.length + x.length) cap e (by unfold maxLen; omega)
    refine ⟨_, _, hr, .inr ⟨w.heap.size, _, _, by rw [List.length_append], alloc_new w.drew _, by rw [List.length_append]; exact hge, hcm', ?_, ?_⟩, ⟨rfl, rfl, rfl, by simp, fun k hk _ => (Fm.alloc (fun _ => False) w.drew _).block k hk (fun e => e)⟩, fun y hy => .inr (by cases hy; exact Nat.le_refl _)⟩
    · have hz1 : (Value.int IntKind.u8 0).cells.size = 1 := rfl
      simp only [Array.size_append, List.size_toArray, size_zeroCells, hz1, bc_len]
      omega
    · simp only [Array.toList_append, List.append_assoc]
      rw [← List.append_assoc, ← bc_append, List.take_append_of_le_length (by rw [bc_len]; exact Nat.le_refl _), List.take_of_length_le (by rw [bc_len]; exact Nat.le_refl _)]
/-- 'string(b[i:j])'. -/
theorem KpAt.cut {P : Program} {t e s : TypeId} (B : ByteT P t e s) {w : World} {v : Value} {L : Bs} {e' : TypeId} (h : KpAt w e' v L) {i j : Nat} (hij : i ≤ j) (hj : j ≤ L.length) :
    ∃ u, slV 1 v (some (.int .i64 i)) (some (.int .i64 j)) none = some u ∧ (convert t s u).run P w = .ok (stv ((L.drop i).take (j - i))) w := by
  rcases h with ⟨rfl, rfl⟩ | ⟨g, cap, cur, rfl, hg, hnc, hcm, hcs, htake⟩
  · simp at hj
    subst hj
    obtain rfl : i = 0 := by omega
    exact ⟨.slice none 0 0, rfl, conv_nil B w 0 0⟩
  · obtain ⟨o', h1, h2, h3, _⟩ := slV_lh (g := g) (o := 0) (n := L.length) (c := cap) hij (by omega) .i64 .i64
    refine ⟨_, h1, ?_⟩
    have hx : BX w g e' L := ⟨cur, _, hg, htake, by omega, .inl rfl⟩
    by_cases hi : i < cap
    · rw [h2 hi, Nat.zero_add]
      exact hx.conv B (by omega) _
    · have : j - i = 0 := by omega
      rw [this]
      have := hx.conv (P := P) B (o := o') (n := 0) (by omega) (cap - i)
      rw [List.take_zero] at this ⊢
      exact this
theorem KpAt.cells {w : World} {e : TypeId} {v : Value} {L : Bs} (h : KpAt w e v L) : CellsAt w v L.length 1 (bc L) := by
  rcases h with ⟨rfl, rfl⟩ | ⟨g, cap, cur, rfl, hg, hnc, hcm, hcs, htake⟩
  · exact CellsAt.of_own (World.ownsRow_nil w 0 e 1)
  · refine ⟨⟨some ⟨g, 0, none⟩, cap, rfl, hnc, hcm, (fun e => by cases e), fun j u hj => ⟨_, rfl, ?_⟩⟩, by rw [bc_len, Nat.mul_one]⟩
    rw [← htake, List.getElem?_take] at hj
    split at hj
    · rw [Addr.add_lit, cell_at hg]
      simpa using hj
    · cases hj

end Go.Al
