/- How records are read, and how much of them. -/
import Derived.Test.YtodnakepbdhfkaaDoorRcAwake
import Derived.Test.YtodnakepbdhfkaaDoorPgViews
import Derived.Test.YtodnakepbdhfkaaDoorAlUpto
namespace Go.Proofs.YtodnakepbdhfkaaDoor
open Go.Al Go.Proofs
set_option linter.unusedVariables false
set_option linter.unusedSimpArgs false
set_option linter.unusedSectionVars false
set_option maxRecDepth 100000
def vKind : Vw Tryd.prog 46 Int := vInt .u8 Tryd.underlying46 (by kernel_rfl)
def vInts : Vw Tryd.prog 47 (List Int) := vSlice Tryd.underlying47 (by kernel_rfl) vI
abbrev ImgT := Int × PgT × Unit
abbrev PrT := Int × Int × Unit
def vImg : Vw Tryd.prog 90 ImgT := vStruct Tryd.underlying90 (fvCons rfl 1 (by kernel_rfl) vI (fvCons rfl 6 (by kernel_rfl) vPage fvNil)) (by kernel_rfl)
def vImgs : Vw Tryd.prog 48 (List ImgT) := vSlice Tryd.underlying48 (by kernel_rfl) vImg
def vOwed : Vw Tryd.prog 96 PrT := vStruct Tryd.underlying96 (fvCons rfl 1 (by kernel_rfl) vI (fvCons rfl 1 (by kernel_rfl) vI fvNil)) (by kernel_rfl)
def vOweds : Vw Tryd.prog 49 (List PrT) := vSlice Tryd.underlying49 (by kernel_rfl) vOwed
def vBeg : Vw Tryd.prog 99 PrT := vStruct Tryd.underlying99 (fvCons rfl 1 (by kernel_rfl) vI (fvCons rfl 1 (by kernel_rfl) vI fvNil)) (by kernel_rfl)
def vBegs : Vw Tryd.prog 50 (List PrT) := vSlice Tryd.underlying50 (by kernel_rfl) vBeg
abbrev RecT := Int × Int × Int × Int × Int × Int × Int × Int × Int × Int × Bs × List Int × List Int × List ImgT × List PrT × List PrT × Unit
def vRec : Vw Tryd.prog 52 RecT := vStruct Tryd.underlying52 (fvCons rfl 1 (by kernel_rfl) vI (fvCons rfl 1 (by kernel_rfl) vI (fvCons rfl 1 (by kernel_rfl) vI (fvCons rfl 1 (by kernel_rfl) vKind (fvCons rfl 1 (by kernel_rfl) vI (fvCons rfl 1 (by kernel_rfl) vI (fvCons rfl 1 (by kernel_rfl) vI (fvCons rfl 1 (by kernel_rfl) vI (fvCons rfl 1 (by kernel_rfl) vI (fvCons rfl 1 (by kernel_rfl) vI (fvCons rfl 1 (by kernel_rfl) vS (fvCons rfl 1 (by kernel_rfl) vInts (fvCons rfl 1 (by kernel_rfl) vInts (fvCons rfl 1 (by kernel_rfl) vImgs (fvCons rfl 1 (by kernel_rfl) vOweds (fvCons rfl 1 (by kernel_rfl) vBegs fvNil)))))))))))))))) (by kernel_rfl)
def recSz (x : RecT) : Nat := (1 + (1 + (1 + (1 + (1 + (1 + (1 + (1 + (1 + (1 + (1 + ((((x.2.2.2.2.2.2.2.2.2.2.2.1).map fun _ => 1).sum + 1) + ((((x.2.2.2.2.2.2.2.2.2.2.2.2.1).map fun _ => 1).sum + 1) + ((((x.2.2.2.2.2.2.2.2.2.2.2.2.2.1).map fun _ => 1).sum + 1) + ((((x.2.2.2.2.2.2.2.2.2.2.2.2.2.2.1).map fun _ => 1).sum + 1) + ((((x.2.2.2.2.2.2.2.2.2.2.2.2.2.2.2.1).map fun _ => 1).sum + 1) + 0))))))))))))))))
theorem vRec_szd : Szd vRec recSz := Szd.struct (SzF.cons (Szd.one _) (SzF.cons (Szd.one _) (SzF.cons (Szd.one _) (SzF.cons (Szd.one _) (SzF.cons (Szd.one _) (SzF.cons (Szd.one _) (SzF.cons (Szd.one _) (SzF.cons (Szd.one _) (SzF.cons (Szd.one _) (SzF.cons (Szd.one _) (SzF.cons (Szd.one _) (SzF.cons (Szd.slice (Szd.one _)) (SzF.cons (Szd.slice (Szd.one _)) (SzF.cons (Szd.slice (Szd.one _)) (SzF.cons (Szd.slice (Szd.one _)) (SzF.cons (Szd.slice (Szd.one _)) SzF.nil))))))))))))))))
theorem ones_sum {α : Type} (l : List α) : (l.map fun _ => 1).sum = l.length := by
  induction l with
  | nil => rfl
  | cons a l ih => simp only [List.map_cons, List.sum_cons, ih, List.length_cons]; omega
def rcOf (x : RecT) : Rc := ⟨x.1, x.2.1, x.2.2.1, x.2.2.2.1, x.2.2.2.2.1, x.2.2.2.2.2.1, x.2.2.2.2.2.2.1, x.2.2.2.2.2.2.2.1, x.2.2.2.2.2.2.2.2.1, x.2.2.2.2.2.2.2.2.2.1, x.2.2.2.2.2.2.2.2.2.2.1, x.2.2.2.2.2.2.2.2.2.2.2.1, x.2.2.2.2.2.2.2.2.2.2.2.2.1, x.2.2.2.2.2.2.2.2.2.2.2.2.2.1.map fun m => (m.1, pgOf m.2.1), x.2.2.2.2.2.2.2.2.2.2.2.2.2.2.1.map fun p => (p.1, p.2.1), x.2.2.2.2.2.2.2.2.2.2.2.2.2.2.2.1.map fun p => (p.1, p.2.1)⟩
theorem bulk_of {x : RecT} (h : recSz x ≤ 1048576) : (rcOf x).slots.length + (rcOf x).more.length + (rcOf x).imgs.length + (rcOf x).pages.length + (rcOf x).txns.length ≤ 2000000 := by
  unfold recSz at h
  simp only [ones_sum] at h
  simp only [rcOf, List.length_map]
  omega
theorem int_in {w : World} {v : Value} {xs : List Int} (h : SliceAs vI w v xs) : ∀ n ∈ xs, In n := fun n hn => by
  obtain ⟨i, hi⟩ := List.getElem?_of_mem hn
  obtain ⟨⟨a, cap, rfl, h1, h2, h3, h4⟩, _⟩ := h
  obtain ⟨ad, cs', g1, g2, g3⟩ := h4 i n hi
  exact i64_of_wf g2.2
theorem pr_rel {w : World} {cs : List Value} {x : PrT} (h : vOwed.rel w cs x) : cs = pc2 (x.1, x.2.1) ∧ In x.1 ∧ In x.2.1 := by
  obtain ⟨a, b, u⟩ := x
  obtain ⟨c0, r0, he, ⟨rfl, h0⟩, c1, r1, rfl, ⟨rfl, h1⟩, h6⟩ := h
  cases h6
  exact ⟨he, i64_of_wf h0, i64_of_wf h1⟩
theorem pr_rel' {w : World} {cs : List Value} {x : PrT} (h : vBeg.rel w cs x) : cs = pc2 (x.1, x.2.1) ∧ In x.1 ∧ In x.2.1 := by
  obtain ⟨a, b, u⟩ := x
  obtain ⟨c0, r0, he, ⟨rfl, h0⟩, c1, r1, rfl, ⟨rfl, h1⟩, h6⟩ := h
  cases h6
  exact ⟨he, i64_of_wf h0, i64_of_wf h1⟩
/-- Elements of n cells each that are known, as a run. -/
theorem cells_run {β : Type} {a : Option Addr} {w : World} {cap n : Nat} {f : β → List Value} (hf : ∀ y, (f y).length = n) (hn : 0 < n) {X : List β} (h1 : X.length ≤ cap) (h2 : cap ≤ maxLen) (h3 : a = none → X.length = 0 ∧ cap = 0)
    (h4 : ∀ i y, X[i]? = some y → ∃ ad, a = some ad ∧ ∀ j, j < n → w.cell? (ad.add (i * n + j)) = (f y)[j]?) : CellsAt w (.slice a X.length cap) X.length n (X.flatMap f) := by
  refine ⟨⟨a, cap, rfl, h1, h2, h3, fun j u hj => ?_⟩, flat_len hf X⟩
  have hlt := (List.getElem?_eq_some_iff.1 hj).1
  rw [flat_len hf] at hlt
  have hi : j / n < X.length := (Nat.div_lt_iff_lt_mul hn).2 hlt
  have hx : X[j / n]? = some X[j / n] := List.getElem?_eq_getElem hi
  obtain ⟨ad, g1, g2⟩ := h4 _ _ hx
  have hr : j % n < n := Nat.mod_lt _ hn
  have hjj : j / n * n + j % n = j := by rw [Nat.mul_comm]; exact Nat.div_add_mod j n
  have e1 := flat_get hf hx hr
  rw [hjj, hj] at e1
  have e2 := g2 _ hr
  rw [hjj, ← e1] at e2
  exact ⟨ad, g1, e2⟩
theorem prs_of {w : World} {v : Value} {xs : List PrT} {e : TypeId} {A : Vw Tryd.prog e PrT} (hc : Tryd.prog.cellsOf e = 2) (hA : ∀ cs x, A.rel w cs x → cs = pc2 (x.1, x.2.1) ∧ In x.1 ∧ In x.2.1) (h : SliceAs A w v xs) :
    CellsAt w v (xs.map fun p => (p.1, p.2.1)).length 2 ((xs.map fun p => (p.1, p.2.1)).flatMap pc2) ∧ ∀ n ∈ prs (xs.map fun p => (p.1, p.2.1)), In n := by
  obtain ⟨⟨a, cap, rfl, h1, h2, h3, h4⟩, _⟩ := h
  have hl : (xs.map fun p => ((p.1, p.2.1) : Int × Int)).length = xs.length := List.length_map ..
  constructor
  · have := cells_run (w := w) (a := a) (cap := cap) pc2_len (by omega) (X := xs.map fun p => ((p.1, p.2.1) : Int × Int)) (by omega) h2 (by rw [hl]; exact h3) (fun i y hy => by
      rw [List.getElem?_map, Option.map_eq_some_iff] at hy
      obtain ⟨x, hx, rfl⟩ := hy
      obtain ⟨ad, cs', g1, g2, g3⟩ := h4 i x hx
      obtain ⟨rfl, _⟩ := hA _ _ g2
      rw [hc] at g3
      exact ⟨ad, g1, g3⟩)
    rw [hl] at this ⊢
    exact this
  · intro n hn
    obtain ⟨p, hp, e⟩ := mem_prs2 hn
    obtain ⟨x, hx, rfl⟩ := List.mem_map.1 hp
    obtain ⟨i, hi⟩ := List.getElem?_of_mem hx
    obtain ⟨ad, cs', g1, g2, g3⟩ := h4 i x hi
    obtain ⟨_, q1, q2⟩ := hA _ _ g2
    rcases e with rfl | rfl
    · exact q1
    · exact q2
theorem img_rel {w : World} {cs : List Value} {x : ImgT} (h : vImg.rel w cs x) : In x.1 ∧ ∃ u, cs = imC (x.1, pgOf x.2.1, u) ∧ u.oneCell' = true ∧ PgAs w (pcs (pgOf x.2.1) u) (pgOf x.2.1) := by
  obtain ⟨m, p, uu⟩ := x
  obtain ⟨c0, r0, he, ⟨rfl, h0⟩, c1, r1, rfl, hp, h6⟩ := h
  cases h6
  have hp' : vPage.rel w c1.toArray.toList p := by rw [List.toList_toArray]; exact hp
  have hpg := page_of hp'
  obtain ⟨u, e1, e2, e3⟩ := hpg.isA.ex
  refine ⟨i64_of_wf h0, u, ?_, e2, e1 ▸ hpg.isA⟩
  have : c1 = (pcs (pgOf p) u).toList := by rw [← e1]
  rw [he, this]
  simp [imC]
theorem imgs_of {w : World} {v : Value} {xs : List ImgT} (h : SliceAs vImg w v xs) : ImAs w v (xs.map fun m => (m.1, pgOf m.2.1)) ∧ (∀ n ∈ (xs.map fun m => ((m.1, pgOf m.2.1) : Int × Pg)).map (·.1), In n) ∧ ∀ m ∈ (xs.map fun m => ((m.1, pgOf m.2.1) : Int × Pg)), m.2.lsn ≤ 9223372036854775807 := by
  have hc : Tryd.prog.cellsOf 90 = 7 := by kernel_rfl
  obtain ⟨⟨a, cap, rfl, h1, h2, h3, h4⟩, _⟩ := h
  have key : ∀ i : Nat, ∃ u : Value, ∀ x, xs[i]? = some x → (u.oneCell' = true ∧ PgAs w (pcs (pgOf x.2.1) u) (pgOf x.2.1)) ∧ ∃ ad, a = some ad ∧ ∀ j, j < 7 → w.cell? (ad.add (i * 7 + j)) = (imC (x.1, pgOf x.2.1, u))[j]? := by
    intro i
    cases hx : xs[i]? with
    | none => exact ⟨nl, fun x hx => by cases hx⟩
    | some x =>
      obtain ⟨ad, cs', g1, g2, g3⟩ := h4 i x hx
      obtain ⟨_, u, rfl, q1, q2⟩ := img_rel g2
      rw [hc] at g3
      exact ⟨u, fun y hy => by cases hy; exact ⟨⟨q1, q2⟩, ad, g1, g3⟩⟩
  let g : Nat → Value := fun i => Classical.choose (key i)
  have hg : ∀ i x, xs[i]? = some x → ((g i).oneCell' = true ∧ PgAs w (pcs (pgOf x.2.1) (g i)) (pgOf x.2.1)) ∧ ∃ ad, a = some ad ∧ ∀ j, j < 7 → w.cell? (ad.add (i * 7 + j)) = (imC (x.1, pgOf x.2.1, g i))[j]? := fun i => Classical.choose_spec (key i)
  have hX : ∀ i, (xs.zipIdx.map fun y => ((y.1.1, pgOf y.1.2.1, g y.2) : Int × Pg × Value))[i]? = (xs[i]?).map fun x => (x.1, pgOf x.2.1, g i) := fun i => by
    rw [List.getElem?_map, List.getElem?_zipIdx]
    cases xs[i]? with
    | none => rfl
    | some x => simp
  have hXl : (xs.zipIdx.map fun y => ((y.1.1, pgOf y.1.2.1, g y.2) : Int × Pg × Value)).length = xs.length := by simp
  generalize (xs.zipIdx.map fun y => ((y.1.1, pgOf y.1.2.1, g y.2) : Int × Pg × Value)) = X at hX hXl
  refine ⟨⟨X, ?_, ?_, ?_⟩, ?_, ?_⟩
  · apply List.ext_getElem?
    intro i
    rw [List.getElem?_map, hX, List.getElem?_map]
    cases xs[i]? <;> rfl
  · have := cells_run (w := w) (a := a) (cap := cap) imC_len (by omega) (X := X) (by omega) h2 (by rw [hXl]; exact h3) (fun i y hy => by
      rw [hX, Option.map_eq_some_iff] at hy
      obtain ⟨x, hx, rfl⟩ := hy
      exact (hg i x hx).2)
    rw [hXl] at this ⊢
    exact this
  · intro y hy
    obtain ⟨i, hi⟩ := List.getElem?_of_mem hy
    rw [hX, Option.map_eq_some_iff] at hi
    obtain ⟨x, hx, rfl⟩ := hi
    exact (hg i x hx).1
  · intro n hn
    rw [List.map_map] at hn
    obtain ⟨x, hx, rfl⟩ := List.mem_map.1 hn
    obtain ⟨i, hi⟩ := List.getElem?_of_mem hx
    obtain ⟨ad, cs', g1, g2, g3⟩ := h4 i x hi
    exact (img_rel g2).1
  · intro m hm
    obtain ⟨x, hx, rfl⟩ := List.mem_map.1 hm
    obtain ⟨i, hi⟩ := List.getElem?_of_mem hx
    exact (hg i x hi).1.2.ins.1.2
theorem rec_of {w : World} {cs : Array Value} {x : RecT} (h : vRec.rel w cs.toList x) (hz : recSz x ≤ 1048576) : RcAs w cs (rcOf x) := by
  have hbulk := bulk_of hz
  obtain ⟨y0, y1, y2, y3, y4, y5, y6, y7, y8, y9, y10, y11, y12, y13, y14, y15, uu⟩ := x
  obtain ⟨c0, r0, he, ⟨rfl, h0⟩, c1, r1, rfl, ⟨rfl, h1⟩, c2, r2, rfl, ⟨rfl, h2⟩, c3, r3, rfl, ⟨rfl, h3⟩, c4, r4, rfl, ⟨rfl, h4⟩, c5, r5, rfl, ⟨rfl, h5⟩, c6, r6, rfl, ⟨rfl, h6⟩, c7, r7, rfl, ⟨rfl, h7⟩, c8, r8, rfl, ⟨rfl, h8⟩, c9, r9, rfl, ⟨rfl, h9⟩, c10, r10, rfl, ⟨rfl, h10⟩, c11, r11, rfl, ⟨vs, rfl, h11⟩, c12, r12, rfl, ⟨vm, rfl, h12⟩, c13, r13, rfl, ⟨vi, rfl, h13⟩, c14, r14, rfl, ⟨vp, rfl, h14⟩, c15, r15, rfl, ⟨vt, rfl, h15⟩, hu⟩ := h
  cases hu
  simp only at h0 h1 h2 h3 h4 h5 h6 h7 h8 h9 h10 h11 h12 h13 h14 h15
  have one : ∀ {α : Type} {e : TypeId} {A : Vw Tryd.prog e α} {v : Value} {xs : List α}, SliceAs A w v xs → v.oneCell' = true := fun hh => by obtain ⟨⟨a, cap, rfl, _⟩, _⟩ := hh; rfl
  obtain ⟨i1, i2, i3⟩ := imgs_of h13
  obtain ⟨p1, p2⟩ := prs_of (by kernel_rfl) (fun _ _ hh => pr_rel hh) h14
  obtain ⟨t1, t2⟩ := prs_of (by kernel_rfl) (fun _ _ hh => pr_rel' hh) h15
  unfold reachBytes at h10
  have hk : 0 ≤ y3 ∧ y3 ≤ 255 := by
    simp only [Lit.wf, Bool.and_eq_true, decide_eq_true_eq] at h3
    exact h3
  refine ⟨⟨vs, vm, vi, vp, vt, ?_, ⟨one h11, one h12, one h13, one h14, one h15⟩, h11.cells (f := iv) (by kernel_rfl) (fun cs x hx => hx.1), h12.cells (f := iv) (by kernel_rfl) (fun cs x hx => hx.1), i1, p1, t1⟩, fun n hn => ?_, hk, by show y10.length ≤ _; omega, hbulk, i3⟩
  · apply Array.ext'
    rw [he]; rfl
  · unfold rNums at hn
    simp only [List.mem_append] at hn
    rcases hn with ((((hn | hn) | hn) | hn) | hn) | hn
    · simp only [rcOf, List.mem_cons, List.not_mem_nil, or_false] at hn
      rcases hn with rfl | rfl | rfl | rfl | rfl | rfl | rfl | rfl | rfl <;> (apply i64_of_wf; assumption)
    · exact int_in h11 n hn
    · exact int_in h12 n hn
    · exact i2 n hn
    · exact p2 n hn
    · exact t2 n hn

end Go.Proofs.YtodnakepbdhfkaaDoor
