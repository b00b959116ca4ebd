/- Views: more of them. -/
import Derived.Test.YthbngnlmgplijaaGreatDoorAlView
import Derived.Test.YthbngnlmgplijaaGreatDoorAlStru
namespace Go.Al
set_option linter.unusedVariables false
set_option linter.unusedSimpArgs false
set_option linter.unusedSectionVars false
open Go.ChangeShapes Go.WideShapes Go.ChangeAt Go.RowKit

/-- A slice of which nothing is asked. -/
def vOp {P : Program} {t e : TypeId} (ht : P.underlying t = some (.slice e)) (hc : P.cellsOf t = 1) : Vw P t Unit where
  rel := fun _ cs _ => ∃ a n c, cs = [.slice a n c]
  keep := fun h _ => h
  len := fun ⟨a, n, c, h⟩ => by rw [h, hc]; rfl
  opens := fun {H enc w base spare held fuel cs y} h hw => by
    rcases Deep.open_slice ht h with ⟨rfl, rfl⟩ | ⟨a, len, cap, m, n, D, Pl, rfl, _, hl, hcap, hm, rfl, hx⟩
    · exact ⟨(), none, 0, 0, rfl⟩
    · exact ⟨(), some a, len, cap, rfl⟩

theorem cellsV_keep {S : Nat → Prop} {w w' : World} {ad : Addr} {n : Nat} {x : Value} (h : cellsV w ad n = some x) (hf : Fm S w w') (hs : ¬ S ad.block) : cellsV w' ad n = some x := by
  have key : ∀ (n i : Nat) (l : List Value), cellsAt w ad i n = some l → cellsAt w' ad i n = some l := by
    intro n
    induction n with
    | zero => intro i l hl; simpa [cellsAt] using hl
    | succ n ih =>
      intro i l hl
      simp only [cellsAt] at hl ⊢
      cases hc : w.cell? (ad.add i) with
      | none => rw [hc] at hl; cases hl
      | some v =>
        rw [hc] at hl
        rw [hf.cell' hc (by rw [add_block]; exact hs)]
        cases hr : cellsAt w ad (i + 1) n with
        | none => rw [hr] at hl; cases hl
        | some l' =>
          rw [hr] at hl
          rw [ih _ _ hr]; exact hl
  unfold cellsV at h ⊢
  cases hc : cellsAt w ad 0 n with
  | none => rw [hc] at h; cases h
  | some l => rw [hc] at h; rw [key _ _ _ hc]; exact h
/-- An element read at once. -/
theorem SliceAs.ld {P : Program} {e : TypeId} {α : Type} {A : Vw P e α} {w : World} {v : Value} {xs : List α} (h : SliceAs A w v xs) {i : Nat} {x : α} (hi : xs[i]? = some x) {c : Nat} (hc : P.cellsOf e = c) (k : IntKind) :
    ∃ ad cs', ixV c v (.int k i) = some (.pointer (some ad)) ∧ A.rel w cs' x ∧ cellsV w ad c = some (.agg cs'.toArray) ∧ ∀ j, j < c → w.cell? (ad.add j) = cs'[j]? := by
  obtain ⟨ad, cs', h1, h2, h3⟩ := h.at hi hc k
  have hlen : cs'.length = c := by rw [← hc]; exact A.len h2
  refine ⟨ad, cs', h1, h2, ?_, h3⟩
  have key : ∀ (n j : Nat), j + n ≤ c → cellsAt w ad j n = some ((cs'.drop j).take n) := by
    intro n
    induction n with
    | zero => intro j hj; simp [cellsAt]
    | succ n ih =>
      intro j hj
      have hlt : j < cs'.length := by omega
      have hcell := h3 j (by omega)
      rw [List.getElem?_eq_getElem hlt] at hcell
      simp only [cellsAt, hcell, ih (j + 1) (by omega), Option.map_some]
      rw [List.drop_eq_getElem_cons hlt, List.take_succ_cons]
  unfold cellsV
  rw [key c 0 (by omega)]
  simp only [List.drop_zero, Option.map_some]
  rw [List.take_of_length_le (by omega)]
/-- 's[i:]'. -/
theorem SliceAs.lo {P : Program} {e : TypeId} {α : Type} {A : Vw P e α} {w : World} {v : Value} {xs : List α} (h : SliceAs A w v xs) {i : Nat} (hi : i ≤ xs.length) {c : Nat} (hc : P.cellsOf e = c) (hc0 : 0 < c) (k : IntKind) :
    ∃ v', slV c v (some (.int k i)) none none = some v' ∧ SliceAs A w v' (xs.drop i) := by
  obtain ⟨⟨a, cap, rfl, h1, h2, h3, h4⟩, hs⟩ := h
  have hv : slV c (.slice a xs.length cap) (some (.int k i)) none none = some (.slice (if cap = i then a else a.map (fun b => Addr.add b (i * c))) (xs.length - i) (cap - i)) := by
    have e1 : bnd xs.length 0 (some (.int k i)) = some i := bnd_at hi k
    have e2 : bnd cap cap none = some cap := rfl
    simp only [slV, bndH, e1, e2, Option.bind_some, Option.map_some]
  refine ⟨_, hv, ⟨⟨if cap = i then a else a.map (fun b => Addr.add b (i * c)), cap - i, ?_, ?_, by omega, fun e => ?_, fun j x hj => ?_⟩, ?_⟩⟩
  · rw [List.length_drop]
  · rw [List.length_drop]; omega
  · have : a = none := by
      split at e
      · exact e
      · cases a <;> simp at e; rfl
    have := h3 this
    rw [List.length_drop]; omega
  · rw [List.getElem?_drop] at hj
    obtain ⟨ad, cs', rfl, g2, g3⟩ := h4 _ x hj
    have hlt := (List.getElem?_eq_some_iff.1 hj).1
    rw [if_neg (by omega)]
    refine ⟨_, cs', rfl, g2, fun q hq => ?_⟩
    have := g3 q hq
    rw [← this, add_add, hc]
    congr 2
    rw [Nat.add_mul]; omega
  · rw [List.length_drop]
    exact Nat.le_trans (Nat.mul_le_mul_right _ (by omega)) hs

end Go.Al
