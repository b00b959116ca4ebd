/- Pages: how many bytes they need, and their bytes; the program's and the document's. -/
import Derived.Test.YthbngnlmgplijaaGreatDoorPgShelf
namespace Go.Proofs.YthbngnlmgplijaaGreatDoor
open Go.Al Go.Proofs
set_option linter.unusedVariables false
set_option linter.unusedSimpArgs false
set_option linter.unusedSectionVars false
set_option maxRecDepth 100000

/-! ### A page in the heap -/
def pcs (p : Pg) (v : Value) : Array Value := #[iv p.lsn, iv p.kind, iv p.level, iv p.right, stv p.high, v]
structure PgAs (w : World) (cs : Array Value) (p : Pg) : Prop where
  ex : ∃ v, cs = pcs p v ∧ v.oneCell' = true ∧ CellsAt w v p.items.length 1 (p.items.map stv)
  small : ∀ x ∈ p.items, x.length ≤ 140737488355328
  ins : In p.lsn ∧ In p.kind ∧ In p.level ∧ In p.right ∧ p.high.length ≤ 140737488355328 ∧ p.items.length * 16 ≤ 140737488355328
theorem PgAs.keep {w w' : World} {cs : Array Value} {p : Pg} (h : PgAs w cs p) (hf : Fm (fun _ => False) w w') : PgAs w' cs p := by
  obtain ⟨v, h1, h2, h3⟩ := h.ex
  exact ⟨⟨v, h1, h2, h3.keep hf (fun _ _ e => e)⟩, h.small, h.ins⟩
theorem PgAs.size {w : World} {cs : Array Value} {p : Pg} (h : PgAs w cs p) : cs.size = 6 := by obtain ⟨v, rfl, _⟩ := h.ex; rfl
theorem PgAs.one {w : World} {cs : Array Value} {p : Pg} (h : PgAs w cs p) : ∀ u ∈ cs.toList, u.oneCell' = true := by
  obtain ⟨v, rfl, h2, _⟩ := h.ex
  intro u hu
  simp [pcs] at hu
  rcases hu with rfl | rfl | rfl | rfl | rfl | rfl <;> first | rfl | assumption
theorem items_nil (w : World) : CellsAt w (.slice none 0 0) ([] : List Bs).length 1 (([] : List Bs).map stv) := ⟨⟨none, 0, rfl, Nat.le_refl _, by simp [maxLen], fun _ => ⟨rfl, rfl⟩, fun j u hj => by simp at hj⟩, rfl⟩
theorem pgAs0 (w : World) : PgAs w (pcs pg0 (.slice none 0 0)) pg0 := ⟨⟨_, rfl, rfl, items_nil w⟩, by simp [pg0], by simp [pg0, In]⟩
def PB (w : World) (g : Nat) (p : Pg) (v : Value) : Prop := w.heap[g]? = some (.cells (pcs p v) 61)
section
variable {S : Nat → Prop} {w w' : World} {g : Nat} {p : Pg} {v : Value}
theorem PB.keep (h : PB w g p v) (hf : Fm S w w') (hs : ¬ S g) : PB w' g p v := hf.heap h hs
theorem PB.c0 (h : PB w g p v) : w.cell? ⟨g, 0, none⟩ = some (iv p.lsn) := by rw [cell_at h]; rfl
theorem PB.c1 (h : PB w g p v) : w.cell? ⟨g, 1, none⟩ = some (iv p.kind) := by rw [cell_at h]; rfl
theorem PB.c2 (h : PB w g p v) : w.cell? ⟨g, 2, none⟩ = some (iv p.level) := by rw [cell_at h]; rfl
theorem PB.c3 (h : PB w g p v) : w.cell? ⟨g, 3, none⟩ = some (iv p.right) := by rw [cell_at h]; rfl
theorem PB.c4 (h : PB w g p v) : w.cell? ⟨g, 4, none⟩ = some (stv p.high) := by rw [cell_at h]; rfl
theorem PB.c5 (h : PB w g p v) : w.cell? ⟨g, 5, none⟩ = some v := by rw [cell_at h]; rfl
theorem PB.all (h : PB w g p v) : cellsV w ⟨g, 0, none⟩ 6 = some (.agg (pcs p v)) := cellsV_blk h rfl
theorem PB.lt (h : PB w g p v) : g < w.heap.size := lt_of_heap h
end

/-! ### Sizes -/
theorem wrap_add2 (a b : Int) : IntKind.i64.wrap (IntKind.i64.wrap a + b) = IntKind.i64.wrap (a + b) := by
  unfold IntKind.wrap; simp [IntKind.bits, IntKind.signed]; omega
theorem wrap_sub2 (a b : Int) : IntKind.i64.wrap (a - IntKind.i64.wrap b) = IntKind.i64.wrap (a - b) := by
  unfold IntKind.wrap; simp [IntKind.bits, IntKind.signed]; omega
def pszF (p : Pg) (i : Nat) : Nat := (p.items.take i).foldl (fun n it => n + (2 + it.length)) (20 + p.high.length)
theorem pszF_full (p : Pg) : pszF p p.items.length = pSize p := by unfold pszF pSize; rw [List.take_length]
theorem pszF_succ (p : Pg) {i : Nat} {x : Bs} (h : p.items[i]? = some x) : pszF p (i + 1) = pszF p i + (2 + x.length) := foldl_take' _ _ h
theorem size_bound {w : World} {cs : Array Value} {p : Pg} (h : PgAs w cs p) (hn : p.items.length ≤ 255) : pSize p ≤ 40000000000000000 := by
  have key : ∀ (l : List Bs) (n : Nat), (∀ x ∈ l, x.length ≤ 140737488355328) → l.foldl (fun n it => n + (2 + it.length)) n ≤ n + l.length * 140737488355330 := by
    intro l
    induction l with
    | nil => intro n _; simp
    | cons x l ih =>
      intro n hx
      have := ih (n + (2 + x.length)) (fun y hy => hx y (List.mem_cons_of_mem _ hy))
      have := hx x (by simp)
      simp only [List.foldl_cons, List.length_cons]
      omega
  have := key p.items (20 + p.high.length) h.small
  have := h.ins
  unfold pSize
  omega
theorem size_spec {w : World} {cs : Array Value} {p : Pg} (h : PgAs w cs p) : Cl Tryz.prog 213 [.agg cs] w fun r w' => r = iv (IntKind.i64.wrap (pSize p)) ∧ Fm (fun _ => False) w w' := by
  obtain ⟨v, rfl, _, hc⟩ := h.ex
  have hi := h.ins
  have hlt := hc.lt
  unfold maxLen at hlt
  refine c213 ?_; unfold T213
  refine New_any ?_
  intro g w1 hg hs1 hw1 hf1
  replace hw1 : PB w1 g p v := hw1
  have e0 : IntKind.i64.wrap (20 + (p.high.length : Int)) = ((20 + p.high.length : Nat) : Int) := by rw [wrap_id] <;> omega
  have hlen := hc.lenV
  simp only [RS0, RS1, RS2, RS3, RS4, RS5, hw1.c4, str_size, e0, hw1.c5, hlen]
  refine ⟨fun vs w2 => ∃ i : Nat, vs = [iv (IntKind.i64.wrap (pszF p i : Nat)), iv i] ∧ i ≤ p.items.length ∧ w2 = w1, fun vs _ => (p.items.length - nth vs 1).toNat, ⟨0, by rw [show pszF p 0 = 20 + p.high.length by simp [pszF], wrap_id (by omega)]; rfl, by omega, rfl⟩, ?_⟩
  rintro _ w2 nv ivv ⟨i, hvs, hi2, rfl⟩
  cases hvs
  by_cases hl : i < p.items.length
  · have e1 : decide ((i : Int) < (p.items.length : Int)) = true := by rw [decide_eq_true_eq]; omega
    have e2 : IntKind.i64.wrap ((i : Int) + 1) = ((i + 1 : Nat) : Int) := by rw [wrap_id] <;> omega
    have hx : p.items[i]? = some p.items[i] := List.getElem?_eq_getElem hl
    have hxm : p.items[i] ∈ p.items := List.getElem_mem hl
    generalize p.items[i] = x at hx hxm
    have hxl := h.small x hxm
    obtain ⟨ad, hix, _, hcx⟩ := (hc.keep hf1 (fun _ _ e => e)).at1 (i := i) (x := stv x) (by rw [List.getElem?_map, hx]; rfl) .i64
    have e3 : IntKind.i64.wrap (2 + (x.length : Int)) = ((2 + x.length : Nat) : Int) := by rw [wrap_id] <;> omega
    have e4 : IntKind.i64.wrap (IntKind.i64.wrap (pszF p i : Nat) + ((2 + x.length : Nat) : Int)) = IntKind.i64.wrap (pszF p (i + 1) : Nat) := by
      rw [wrap_add2, pszF_succ p hx]; congr 1
    simp only [RS0, RS1, RS2, RS3, RS4, RS5, e1, hix, hcx, str_size, e3, e4, e2]
    exact ⟨⟨i + 1, rfl, by omega, (by trivial)⟩, by simp only [nth_1]; omega⟩
  · obtain rfl : i = p.items.length := by omega
    have e1 : decide (((p.items.length : Nat) : Int) < (p.items.length : Int)) = false := by simp
    simp only [RS0, RS1, RS2, RS3, RS4, RS5, e1]
    exact ⟨by rw [pszF_full], hf1⟩
theorem rsize_spec {w : World} {cs : Array Value} {p : Pg} (h : PgAs w cs p) : Cl Tryz.prog 193 [.agg cs] w fun r w' => r = iv (IntKind.i64.wrap (pSize p)) ∧ Fm (fun _ => False) w w' := by
  obtain ⟨v, rfl, _, hc⟩ := h.ex
  have hi := h.ins
  have hlt := hc.lt
  unfold maxLen at hlt
  refine c193 ?_; unfold T193
  refine New_any ?_
  intro g w1 hg hs1 hw1 hf1
  replace hw1 : PB w1 g p v := hw1
  have e0 : IntKind.i64.wrap (20 + (p.high.length : Int)) = ((20 + p.high.length : Nat) : Int) := by rw [wrap_id] <;> omega
  have hlen := hc.lenV
  simp only [RS0, RS1, RS2, RS3, RS4, RS5, hw1.c4, str_size, e0]
  refine ⟨fun vs w2 => ∃ i : Nat, vs = [iv (IntKind.i64.wrap (pszF p i : Nat)), iv i] ∧ i ≤ p.items.length ∧ w2 = w1, fun vs _ => (p.items.length - nth vs 1).toNat, ⟨0, by rw [show pszF p 0 = 20 + p.high.length by simp [pszF], wrap_id (by omega)]; rfl, by omega, rfl⟩, ?_⟩
  rintro _ w2 nv ivv ⟨i, hvs, hi2, rfl⟩
  cases hvs
  by_cases hl : i < p.items.length
  · have e1 : decide ((i : Int) < (p.items.length : Int)) = true := by rw [decide_eq_true_eq]; omega
    have e2 : IntKind.i64.wrap ((i : Int) + 1) = ((i + 1 : Nat) : Int) := by rw [wrap_id] <;> omega
    have hx : p.items[i]? = some p.items[i] := List.getElem?_eq_getElem hl
    have hxm : p.items[i] ∈ p.items := List.getElem_mem hl
    generalize p.items[i] = x at hx hxm
    have hxl := h.small x hxm
    obtain ⟨ad, hix, _, hcx⟩ := (hc.keep hf1 (fun _ _ e => e)).at1 (i := i) (x := stv x) (by rw [List.getElem?_map, hx]; rfl) .i64
    have e4 : IntKind.i64.wrap (IntKind.i64.wrap (IntKind.i64.wrap (pszF p i : Nat) + 2) + (x.length : Int)) = IntKind.i64.wrap (pszF p (i + 1) : Nat) := by
      rw [wrap_add2, Int.add_assoc, wrap_add2, pszF_succ p hx]; congr 1
    simp only [RS0, RS1, RS2, RS3, RS4, RS5, hw1.c5, hlen, e1, hix, hcx, str_size, e4, e2]
    exact ⟨⟨i + 1, rfl, by omega, (by trivial)⟩, by simp only [nth_1]; omega⟩
  · obtain rfl : i = p.items.length := by omega
    have e1 : decide (((p.items.length : Nat) : Int) < (p.items.length : Int)) = false := by simp
    simp only [RS0, RS1, RS2, RS3, RS4, RS5, hw1.c5, hlen, e1]
    exact ⟨by rw [pszF_full], hf1⟩
def roomN (p : Pg) : Int := bif decide (IntKind.i64.wrap (510 - (pSize p : Int)) < 0) || decide (255 ≤ p.items.length) then -1 else IntKind.i64.wrap (510 - (pSize p : Int))
def fitsB (p : Pg) : Bool := decide (p.items.length ≤ 255) && decide (pSize p ≤ 512)
theorem fits_spec {w : World} {cs : Array Value} {p : Pg} (h : PgAs w cs p) : Cl Tryz.prog 180 [.agg cs] w fun r w' => r = .bool (fitsB p) ∧ Fm (fun _ => False) w w' := by
  obtain ⟨v, hcs, _, hc⟩ := h.ex
  refine c180 ?_; unfold T180
  refine New_any ?_
  intro g w1 hg hs1 hw1 hf1
  have hb : PB w1 g p v := by rw [PB, ← hcs]; exact hw1
  have hall := hb.all
  rw [← hcs] at hall
  have hlen := hc.lenV
  have d1 : decide ((p.items.length : Int) ≤ 255) = decide (p.items.length ≤ 255) := by rw [decide_eq_decide]; omega
  unfold fitsB
  simp only [RS0, RS1, RS2, RS3, RS4, RS5, hb.c5, hlen, d1]
  cases hd : decide (p.items.length ≤ 255) with
  | false =>
    simp only [RS0, RS1, RS2, RS3, RS4, RS5, Bool.false_and]
    exact ⟨(by trivial), hf1⟩
  | true =>
    have hsb := size_bound h (by simpa using hd)
    simp only [RS0, RS1, RS2, RS3, RS4, RS5, hall]
    refine (size_spec (h.keep hf1)).mono ?_
    rintro _ w2 ⟨rfl, hf2⟩
    have d2 : decide (IntKind.i64.wrap (pSize p) ≤ 512) = decide (pSize p ≤ 512) := by rw [wrap_nat (by omega), decide_eq_decide]; omega
    simp only [RS0, RS1, RS2, RS3, RS4, RS5, d2, Bool.true_and]
    exact ⟨(by trivial), Fmf hf1 hf2⟩

end Go.Proofs.YthbngnlmgplijaaGreatDoor
