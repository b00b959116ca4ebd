/- How what comes in is read: a page, a text, a number. How records are read, and how much of them. No room is lost. No room is lost: the law. -/
import Derived.Test.YthbngnlmgplijaaGreatDoorPgSame
import Derived.Test.YthbngnlmgplijaaGreatDoorRcSame
import Derived.Test.YthbngnlmgplijaaGreatDoorAlUpto
import Derived.Test.YthbngnlmgplijaaGreatDoorWalD
namespace Go.Proofs.YthbngnlmgplijaaGreatDoor
open Go.Al Go.Proofs
set_option linter.unusedVariables false
set_option maxRecDepth 100000
def vI : Vw Tryz.prog 3 Int := vInt .i64 Tryz.underlying3 (by kernel_rfl)
def vB : Vw Tryz.prog 4 Bool := vBool Tryz.underlying4 (by kernel_rfl)
def vU8 : Vw Tryz.prog 5 Int := vInt .u8 Tryz.underlying5 (by kernel_rfl)
def vS : Vw Tryz.prog 9 Bs := vStr Tryz.underlying9 (by kernel_rfl)
def vSs : Vw Tryz.prog 59 (List Bs) := vSlice Tryz.underlying59 (by kernel_rfl) vS
abbrev PgT := Int × Int × Int × Int × Bs × List Bs × Unit
def vPage : Vw Tryz.prog 61 PgT := vStruct Tryz.underlying61 (fvCons rfl 1 (by kernel_rfl) vI (fvCons rfl 1 (by kernel_rfl) vI (fvCons rfl 1 (by kernel_rfl) vI (fvCons rfl 1 (by kernel_rfl) vI (fvCons rfl 1 (by kernel_rfl) vS (fvCons rfl 1 (by kernel_rfl) vSs fvNil)))))) (by kernel_rfl)
def pgOf (x : PgT) : Pg := ⟨x.1, x.2.1, x.2.2.1, x.2.2.2.1, x.2.2.2.2.1, x.2.2.2.2.2.1⟩
/-- A page that came in. -/
structure PgIn (w : World) (cs : Array Value) (p : Pg) : Prop where
  isA : PgAs w cs p
  many : p.items.length * 16 ≤ 140737488351232
  small : (∀ x ∈ p.items, x.length ≤ 140737488351232) ∧ p.high.length ≤ 140737488351232
theorem page_of {w : World} {cs : Array Value} {x : PgT} (h : vPage.rel w cs.toList x) : PgIn w cs (pgOf x) := by
  obtain ⟨lsn, kind, level, right, high, items, u⟩ := x
  obtain ⟨c0, r0, he, ⟨rfl, h0⟩, c1, r1, rfl, ⟨rfl, h1⟩, c2, r2, rfl, ⟨rfl, h2⟩, c3, r3, rfl, ⟨rfl, h3⟩, c4, r4, rfl, ⟨rfl, h4⟩, c5, r5, rfl, ⟨im, rfl, him⟩, h6⟩ := h
  cases h6
  simp only at h0 h1 h2 h3 h4 him
  have hc := him.cells (f := stv) (by kernel_rfl) (fun cs x hx => hx.1)
  have hsm := him.small
  rw [show Tryz.prog.bytesOf 9 = 16 by kernel_rfl] at hsm
  unfold reachBytes at hsm h4
  have hone : im.oneCell' = true := by obtain ⟨⟨a, cap, rfl, _⟩, _⟩ := him; rfl
  have hit : ∀ x ∈ items, x.length ≤ 140737488351232 := by
    intro x hx
    obtain ⟨i, hi⟩ := List.getElem?_of_mem hx
    obtain ⟨ad, cs', _, hr, _⟩ := him.at hi (c := 1) (by kernel_rfl) .i64
    have := hr.2
    unfold reachBytes at this
    omega
  have hcs : cs = pcs (pgOf (lsn, kind, level, right, high, items, u)) im := by
    apply Array.ext'
    rw [he]; rfl
  refine ⟨⟨⟨im, hcs, hone, hc⟩, fun x hx => by have := hit x hx; omega, i64_of_wf h0, i64_of_wf h1, i64_of_wf h2, i64_of_wf h3, by show high.length ≤ _; omega, by show items.length * 16 ≤ _; omega⟩, by show items.length * 16 ≤ _; omega, hit, by show high.length ≤ _; omega⟩
end Go.Proofs.YthbngnlmgplijaaGreatDoor

namespace Go.Proofs.YthbngnlmgplijaaGreatDoor
open Go.Al Go.Proofs
set_option linter.unusedVariables false
set_option linter.unusedSimpArgs false
set_option linter.unusedSectionVars false
set_option maxRecDepth 100000
def vKind : Vw Tryz.prog 22 Int := vInt .u8 Tryz.underlying22 (by kernel_rfl)
def vInts : Vw Tryz.prog 23 (List Int) := vSlice Tryz.underlying23 (by kernel_rfl) vI
abbrev ImgT := Int × PgT × Unit
abbrev PrT := Int × Int × Unit
def vImg : Vw Tryz.prog 118 ImgT := vStruct Tryz.underlying118 (fvCons rfl 1 (by kernel_rfl) vI (fvCons rfl 6 (by kernel_rfl) vPage fvNil)) (by kernel_rfl)
def vImgs : Vw Tryz.prog 24 (List ImgT) := vSlice Tryz.underlying24 (by kernel_rfl) vImg
def vOwed : Vw Tryz.prog 120 PrT := vStruct Tryz.underlying120 (fvCons rfl 1 (by kernel_rfl) vI (fvCons rfl 1 (by kernel_rfl) vI fvNil)) (by kernel_rfl)
def vOweds : Vw Tryz.prog 25 (List PrT) := vSlice Tryz.underlying25 (by kernel_rfl) vOwed
def vBeg : Vw Tryz.prog 122 PrT := vStruct Tryz.underlying122 (fvCons rfl 1 (by kernel_rfl) vI (fvCons rfl 1 (by kernel_rfl) vI fvNil)) (by kernel_rfl)
def vBegs : Vw Tryz.prog 26 (List PrT) := vSlice Tryz.underlying26 (by kernel_rfl) vBeg
abbrev RecT := Int × Int × Int × Int × Int × Int × Int × Int × Int × Int × Bs × List Int × List Int × List ImgT × List PrT × List PrT × Unit
def vRec : Vw Tryz.prog 28 RecT := vStruct Tryz.underlying28 (fvCons rfl 1 (by kernel_rfl) vI (fvCons rfl 1 (by kernel_rfl) vI (fvCons rfl 1 (by kernel_rfl) vI (fvCons rfl 1 (by kernel_rfl) vKind (fvCons rfl 1 (by kernel_rfl) vI (fvCons rfl 1 (by kernel_rfl) vI (fvCons rfl 1 (by kernel_rfl) vI (fvCons rfl 1 (by kernel_rfl) vI (fvCons rfl 1 (by kernel_rfl) vI (fvCons rfl 1 (by kernel_rfl) vI (fvCons rfl 1 (by kernel_rfl) vS (fvCons rfl 1 (by kernel_rfl) vInts (fvCons rfl 1 (by kernel_rfl) vInts (fvCons rfl 1 (by kernel_rfl) vImgs (fvCons rfl 1 (by kernel_rfl) vOweds (fvCons rfl 1 (by kernel_rfl) vBegs fvNil)))))))))))))))) (by kernel_rfl)
def recSz (x : RecT) : Nat := (1 + (1 + (1 + (1 + (1 + (1 + (1 + (1 + (1 + (1 + (1 + ((((x.2.2.2.2.2.2.2.2.2.2.2.1).map fun _ => 1).sum + 1) + ((((x.2.2.2.2.2.2.2.2.2.2.2.2.1).map fun _ => 1).sum + 1) + ((((x.2.2.2.2.2.2.2.2.2.2.2.2.2.1).map fun _ => 1).sum + 1) + ((((x.2.2.2.2.2.2.2.2.2.2.2.2.2.2.1).map fun _ => 1).sum + 1) + ((((x.2.2.2.2.2.2.2.2.2.2.2.2.2.2.2.1).map fun _ => 1).sum + 1) + 0))))))))))))))))
theorem vRec_szd : Szd vRec recSz := Szd.struct (SzF.cons (Szd.one _) (SzF.cons (Szd.one _) (SzF.cons (Szd.one _) (SzF.cons (Szd.one _) (SzF.cons (Szd.one _) (SzF.cons (Szd.one _) (SzF.cons (Szd.one _) (SzF.cons (Szd.one _) (SzF.cons (Szd.one _) (SzF.cons (Szd.one _) (SzF.cons (Szd.one _) (SzF.cons (Szd.slice (Szd.one _)) (SzF.cons (Szd.slice (Szd.one _)) (SzF.cons (Szd.slice (Szd.one _)) (SzF.cons (Szd.slice (Szd.one _)) (SzF.cons (Szd.slice (Szd.one _)) SzF.nil))))))))))))))))
theorem ones_sum {α : Type} (l : List α) : (l.map fun _ => 1).sum = l.length := by
  induction l with
  | nil => rfl
  | cons a l ih => simp only [List.map_cons, List.sum_cons, ih, List.length_cons]; omega
def rcOf (x : RecT) : Rc := ⟨x.1, x.2.1, x.2.2.1, x.2.2.2.1, x.2.2.2.2.1, x.2.2.2.2.2.1, x.2.2.2.2.2.2.1, x.2.2.2.2.2.2.2.1, x.2.2.2.2.2.2.2.2.1, x.2.2.2.2.2.2.2.2.2.1, x.2.2.2.2.2.2.2.2.2.2.1, x.2.2.2.2.2.2.2.2.2.2.2.1, x.2.2.2.2.2.2.2.2.2.2.2.2.1, x.2.2.2.2.2.2.2.2.2.2.2.2.2.1.map fun m => (m.1, pgOf m.2.1), x.2.2.2.2.2.2.2.2.2.2.2.2.2.2.1.map fun p => (p.1, p.2.1), x.2.2.2.2.2.2.2.2.2.2.2.2.2.2.2.1.map fun p => (p.1, p.2.1)⟩
theorem bulk_of {x : RecT} (h : recSz x ≤ 1048576) : (rcOf x).slots.length + (rcOf x).more.length + (rcOf x).imgs.length + (rcOf x).pages.length + (rcOf x).txns.length ≤ 2000000 := by
  unfold recSz at h
  simp only [ones_sum] at h
  simp only [rcOf, List.length_map]
  omega
theorem int_in {w : World} {v : Value} {xs : List Int} (h : SliceAs vI w v xs) : ∀ n ∈ xs, In n := fun n hn => by
  obtain ⟨i, hi⟩ := List.getElem?_of_mem hn
  obtain ⟨⟨a, cap, rfl, h1, h2, h3, h4⟩, _⟩ := h
  obtain ⟨ad, cs', g1, g2, g3⟩ := h4 i n hi
  exact i64_of_wf g2.2
theorem pr_rel {w : World} {cs : List Value} {x : PrT} (h : vOwed.rel w cs x) : cs = pc2 (x.1, x.2.1) ∧ In x.1 ∧ In x.2.1 := by
  obtain ⟨a, b, u⟩ := x
  obtain ⟨c0, r0, he, ⟨rfl, h0⟩, c1, r1, rfl, ⟨rfl, h1⟩, h6⟩ := h
  cases h6
  exact ⟨he, i64_of_wf h0, i64_of_wf h1⟩
theorem pr_rel' {w : World} {cs : List Value} {x : PrT} (h : vBeg.rel w cs x) : cs = pc2 (x.1, x.2.1) ∧ In x.1 ∧ In x.2.1 := by
  obtain ⟨a, b, u⟩ := x
  obtain ⟨c0, r0, he, ⟨rfl, h0⟩, c1, r1, rfl, ⟨rfl, h1⟩, h6⟩ := h
  cases h6
  exact ⟨he, i64_of_wf h0, i64_of_wf h1⟩
/-- Elements of n cells each that are known, as a run. -/
theorem cells_run {β : Type} {a : Option Addr} {w : World} {cap n : Nat} {f : β → List Value} (hf : ∀ y, (f y).length = n) (hn : 0 < n) {X : List β} (h1 : X.length ≤ cap) (h2 : cap ≤ maxLen) (h3 : a = none → X.length = 0 ∧ cap = 0)
    (h4 : ∀ i y, X[i]? = some y → ∃ ad, a = some ad ∧ ∀ j, j < n → w.cell? (ad.add (i * n + j)) = (f y)[j]?) : CellsAt w (.slice a X.length cap) X.length n (X.flatMap f) := by
  refine ⟨⟨a, cap, rfl, h1, h2, h3, fun j u hj => ?_⟩, flat_len hf X⟩
  have hlt := (List.getElem?_eq_some_iff.1 hj).1
  rw [flat_len hf] at hlt
  have hi : j / n < X.length := (Nat.div_lt_iff_lt_mul hn).2 hlt
  have hx : X[j / n]? = some X[j / n] := List.getElem?_eq_getElem hi
  obtain ⟨ad, g1, g2⟩ := h4 _ _ hx
  have hr : j % n < n := Nat.mod_lt _ hn
  have hjj : j / n * n + j % n = j := by rw [Nat.mul_comm]; exact Nat.div_add_mod j n
  have e1 := flat_get hf hx hr
  rw [hjj, hj] at e1
  have e2 := g2 _ hr
  rw [hjj, ← e1] at e2
  exact ⟨ad, g1, e2⟩
theorem prs_of {w : World} {v : Value} {xs : List PrT} {e : TypeId} {A : Vw Tryz.prog e PrT} (hc : Tryz.prog.cellsOf e = 2) (hA : ∀ cs x, A.rel w cs x → cs = pc2 (x.1, x.2.1) ∧ In x.1 ∧ In x.2.1) (h : SliceAs A w v xs) :
    CellsAt w v (xs.map fun p => (p.1, p.2.1)).length 2 ((xs.map fun p => (p.1, p.2.1)).flatMap pc2) ∧ ∀ n ∈ prs (xs.map fun p => (p.1, p.2.1)), In n := by
  obtain ⟨⟨a, cap, rfl, h1, h2, h3, h4⟩, _⟩ := h
  have hl : (xs.map fun p => ((p.1, p.2.1) : Int × Int)).length = xs.length := List.length_map ..
  constructor
  · have := cells_run (w := w) (a := a) (cap := cap) pc2_len (by omega) (X := xs.map fun p => ((p.1, p.2.1) : Int × Int)) (by omega) h2 (by rw [hl]; exact h3) (fun i y hy => by
      rw [List.getElem?_map, Option.map_eq_some_iff] at hy
      obtain ⟨x, hx, rfl⟩ := hy
      obtain ⟨ad, cs', g1, g2, g3⟩ := h4 i x hx
      obtain ⟨rfl, _⟩ := hA _ _ g2
      rw [hc] at g3
      exact ⟨ad, g1, g3⟩)
    rw [hl] at this ⊢
    exact this
  · intro n hn
    obtain ⟨p, hp, e⟩ := mem_prs2 hn
    obtain ⟨x, hx, rfl⟩ := List.mem_map.1 hp
    obtain ⟨i, hi⟩ := List.getElem?_of_mem hx
    obtain ⟨ad, cs', g1, g2, g3⟩ := h4 i x hi
    obtain ⟨_, q1, q2⟩ := hA _ _ g2
    rcases e with rfl | rfl
    · exact q1
    · exact q2
theorem img_rel {w : World} {cs : List Value} {x : ImgT} (h : vImg.rel w cs x) : In x.1 ∧ ∃ u, cs = imC (x.1, pgOf x.2.1, u) ∧ u.oneCell' = true ∧ PgAs w (pcs (pgOf x.2.1) u) (pgOf x.2.1) := by
  obtain ⟨m, p, uu⟩ := x
  obtain ⟨c0, r0, he, ⟨rfl, h0⟩, c1, r1, rfl, hp, h6⟩ := h
  cases h6
  have hp' : vPage.rel w c1.toArray.toList p := by rw [List.toList_toArray]; exact hp
  have hpg := page_of hp'
  obtain ⟨u, e1, e2, e3⟩ := hpg.isA.ex
  refine ⟨i64_of_wf h0, u, ?_, e2, e1 ▸ hpg.isA⟩
  have : c1 = (pcs (pgOf p) u).toList := by rw [← e1]
  rw [he, this]
  simp [imC]
theorem imgs_of {w : World} {v : Value} {xs : List ImgT} (h : SliceAs vImg w v xs) : ImAs w v (xs.map fun m => (m.1, pgOf m.2.1)) ∧ (∀ n ∈ (xs.map fun m => ((m.1, pgOf m.2.1) : Int × Pg)).map (·.1), In n) ∧ ∀ m ∈ (xs.map fun m => ((m.1, pgOf m.2.1) : Int × Pg)), m.2.lsn ≤ 9223372036854775807 := by
  have hc : Tryz.prog.cellsOf 118 = 7 := by kernel_rfl
  obtain ⟨⟨a, cap, rfl, h1, h2, h3, h4⟩, _⟩ := h
  have key : ∀ i : Nat, ∃ u : Value, ∀ x, xs[i]? = some x → (u.oneCell' = true ∧ PgAs w (pcs (pgOf x.2.1) u) (pgOf x.2.1)) ∧ ∃ ad, a = some ad ∧ ∀ j, j < 7 → w.cell? (ad.add (i * 7 + j)) = (imC (x.1, pgOf x.2.1, u))[j]? := by
    intro i
    cases hx : xs[i]? with
    | none => exact ⟨nl, fun x hx => by cases hx⟩
    | some x =>
      obtain ⟨ad, cs', g1, g2, g3⟩ := h4 i x hx
      obtain ⟨_, u, rfl, q1, q2⟩ := img_rel g2
      rw [hc] at g3
      exact ⟨u, fun y hy => by cases hy; exact ⟨⟨q1, q2⟩, ad, g1, g3⟩⟩
  let g : Nat → Value := fun i => Classical.choose (key i)
  have hg : ∀ i x, xs[i]? = some x → ((g i).oneCell' = true ∧ PgAs w (pcs (pgOf x.2.1) (g i)) (pgOf x.2.1)) ∧ ∃ ad, a = some ad ∧ ∀ j, j < 7 → w.cell? (ad.add (i * 7 + j)) = (imC (x.1, pgOf x.2.1, g i))[j]? := fun i => Classical.choose_spec (key i)
  have hX : ∀ i, (xs.zipIdx.map fun y => ((y.1.1, pgOf y.1.2.1, g y.2) : Int × Pg × Value))[i]? = (xs[i]?).map fun x => (x.1, pgOf x.2.1, g i) := fun i => by
    rw [List.getElem?_map, List.getElem?_zipIdx]
    cases xs[i]? with
    | none => rfl
    | some x => simp
  have hXl : (xs.zipIdx.map fun y => ((y.1.1, pgOf y.1.2.1, g y.2) : Int × Pg × Value)).length = xs.length := by simp
  generalize (xs.zipIdx.map fun y => ((y.1.1, pgOf y.1.2.1, g y.2) : Int × Pg × Value)) = X at hX hXl
  refine ⟨⟨X, ?_, ?_, ?_⟩, ?_, ?_⟩
  · apply List.ext_getElem?
    intro i
    rw [List.getElem?_map, hX, List.getElem?_map]
    cases xs[i]? <;> rfl
  · have := cells_run (w := w) (a := a) (cap := cap) imC_len (by omega) (X := X) (by omega) h2 (by rw [hXl]; exact h3) (fun i y hy => by
      rw [hX, Option.map_eq_some_iff] at hy
      obtain ⟨x, hx, rfl⟩ := hy
      exact (hg i x hx).2)
    rw [hXl] at this ⊢
    exact this
  · intro y hy
    obtain ⟨i, hi⟩ := List.getElem?_of_mem hy
    rw [hX, Option.map_eq_some_iff] at hi
    obtain ⟨x, hx, rfl⟩ := hi
    exact (hg i x hx).1
  · intro n hn
    rw [List.map_map] at hn
    obtain ⟨x, hx, rfl⟩ := List.mem_map.1 hn
    obtain ⟨i, hi⟩ := List.getElem?_of_mem hx
    obtain ⟨ad, cs', g1, g2, g3⟩ := h4 i x hi
    exact (img_rel g2).1
  · intro m hm
    obtain ⟨x, hx, rfl⟩ := List.mem_map.1 hm
    obtain ⟨i, hi⟩ := List.getElem?_of_mem hx
    exact (hg i x hi).1.2.ins.1.2
theorem rec_of {w : World} {cs : Array Value} {x : RecT} (h : vRec.rel w cs.toList x) (hz : recSz x ≤ 1048576) : RcAs w cs (rcOf x) := by
  have hbulk := bulk_of hz
  obtain ⟨y0, y1, y2, y3, y4, y5, y6, y7, y8, y9, y10, y11, y12, y13, y14, y15, uu⟩ := x
  obtain ⟨c0, r0, he, ⟨rfl, h0⟩, c1, r1, rfl, ⟨rfl, h1⟩, c2, r2, rfl, ⟨rfl, h2⟩, c3, r3, rfl, ⟨rfl, h3⟩, c4, r4, rfl, ⟨rfl, h4⟩, c5, r5, rfl, ⟨rfl, h5⟩, c6, r6, rfl, ⟨rfl, h6⟩, c7, r7, rfl, ⟨rfl, h7⟩, c8, r8, rfl, ⟨rfl, h8⟩, c9, r9, rfl, ⟨rfl, h9⟩, c10, r10, rfl, ⟨rfl, h10⟩, c11, r11, rfl, ⟨vs, rfl, h11⟩, c12, r12, rfl, ⟨vm, rfl, h12⟩, c13, r13, rfl, ⟨vi, rfl, h13⟩, c14, r14, rfl, ⟨vp, rfl, h14⟩, c15, r15, rfl, ⟨vt, rfl, h15⟩, hu⟩ := h
  cases hu
  simp only at h0 h1 h2 h3 h4 h5 h6 h7 h8 h9 h10 h11 h12 h13 h14 h15
  have one : ∀ {α : Type} {e : TypeId} {A : Vw Tryz.prog e α} {v : Value} {xs : List α}, SliceAs A w v xs → v.oneCell' = true := fun hh => by obtain ⟨⟨a, cap, rfl, _⟩, _⟩ := hh; rfl
  obtain ⟨i1, i2, i3⟩ := imgs_of h13
  obtain ⟨p1, p2⟩ := prs_of (by kernel_rfl) (fun _ _ hh => pr_rel hh) h14
  obtain ⟨t1, t2⟩ := prs_of (by kernel_rfl) (fun _ _ hh => pr_rel' hh) h15
  unfold reachBytes at h10
  have hk : 0 ≤ y3 ∧ y3 ≤ 255 := by
    simp only [Lit.wf, Bool.and_eq_true, decide_eq_true_eq] at h3
    exact h3
  refine ⟨⟨vs, vm, vi, vp, vt, ?_, ⟨one h11, one h12, one h13, one h14, one h15⟩, h11.cells (f := iv) (by kernel_rfl) (fun cs x hx => hx.1), h12.cells (f := iv) (by kernel_rfl) (fun cs x hx => hx.1), i1, p1, t1⟩, fun n hn => ?_, hk, by show y10.length ≤ _; omega, hbulk, i3⟩
  · apply Array.ext'
    rw [he]; rfl
  · unfold rNums at hn
    simp only [List.mem_append] at hn
    rcases hn with ((((hn | hn) | hn) | hn) | hn) | hn
    · simp only [rcOf, List.mem_cons, List.not_mem_nil, or_false] at hn
      rcases hn with rfl | rfl | rfl | rfl | rfl | rfl | rfl | rfl | rfl <;> (apply i64_of_wf; assumption)
    · exact int_in h11 n hn
    · exact int_in h12 n hn
    · exact i2 n hn
    · exact p2 n hn
    · exact t2 n hn

end Go.Proofs.YthbngnlmgplijaaGreatDoor

namespace Go.Proofs.YthbngnlmgplijaaGreatDoor
open Go.Al Go.Proofs
set_option linter.unusedVariables false
set_option linter.unusedSimpArgs false
set_option linter.unusedSectionVars false
set_option maxRecDepth 100000

abbrev OpT := Int × Int × Int × RecT × List Int × Unit
def vOp : Vw Tryz.prog 44 OpT := vStruct Tryz.underlying44 (fvCons rfl 1 (by kernel_rfl) vI (fvCons rfl 1 (by kernel_rfl) vI (fvCons rfl 1 (by kernel_rfl) vI (fvCons rfl 16 (by kernel_rfl) vRec (fvCons rfl 1 (by kernel_rfl) vInts fvNil))))) (by kernel_rfl)
def vOps : Vw Tryz.prog 35 (List OpT) := vSlice Tryz.underlying35 (by kernel_rfl) vOp
def opSz (x : OpT) : Nat := (1 + (1 + (1 + (recSz x.2.2.2.1 + ((((x.2.2.2.2.1).map fun _ => 1).sum + 1) + 0)))))
theorem vOp_szd : Szd vOp opSz := Szd.struct (SzF.cons (Szd.one _) (SzF.cons (Szd.one _) (SzF.cons (Szd.one _) (SzF.cons vRec_szd (SzF.cons (Szd.slice (Szd.one _)) SzF.nil)))))
theorem vOps_szd : Szd vOps (fun xs => (xs.map opSz).sum + 1) := Szd.slice vOp_szd
theorem ops_sum {l : List OpT} : l.length ≤ (l.map opSz).sum ∧ ∀ x ∈ l, recSz x.2.2.2.1 ≤ (l.map opSz).sum := by
  induction l with
  | nil => simp
  | cons x l ih =>
    have : 1 ≤ opSz x ∧ recSz x.2.2.2.1 ≤ opSz x := by unfold opSz; omega
    simp only [List.length_cons, List.map_cons, List.sum_cons]
    refine ⟨by omega, fun y hy => ?_⟩
    rcases List.mem_cons.1 hy with rfl | hy
    · omega
    · have := ih.2 y hy; omega
theorem op_ld {w : World} {v : Value} {xs : List OpT} (h : SliceAs vOp w v xs) {i : Nat} {x : OpT} (hx : xs[i]? = some x) (hz : recSz x.2.2.2.1 ≤ 1048576) :
    ∃ ad cs, ixV 20 v (iv (i : Int)) = some (.pointer (some ad)) ∧ w.cell? ad = some (iv x.1) ∧ w.cell? (ad.add 1) = some (iv x.2.1) ∧ cellsV w (ad.add 3) 16 = some (.agg cs) ∧ RcAs w cs (rcOf x.2.2.2.1) ∧ In x.2.1 := by
  have hc : Tryz.prog.cellsOf 44 = 20 := by kernel_rfl
  have hc28 : Tryz.prog.cellsOf 28 = 16 := by kernel_rfl
  obtain ⟨ad, cs', h1, h2, h3, h4⟩ := h.ld hx hc .i64
  obtain ⟨ask, n, near, r, how, u⟩ := x
  obtain ⟨c0, r0, he, ⟨rfl, g0⟩, c1, r1, rfl, ⟨rfl, g1⟩, c2, r2, rfl, ⟨rfl, g2⟩, c3, r3, rfl, g3, _⟩ := h2
  have hl3 : c3.length = 16 := by rw [← hc28]; exact vRec.len g3
  simp only at g1 hz
  subst he
  refine ⟨ad, c3.toArray, h1, ?_, ?_, ?_, ?_, ?_⟩
  · have := h4 0 (by omega)
    rw [Go.Al.add_zero] at this
    rw [this]; rfl
  · have := h4 1 (by omega)
    rw [this]; rfl
  · refine cellsV_of hl3 fun j hj => ?_
    rw [add_add, h4 (3 + j) (by omega)]
    show ([_] ++ ([_] ++ ([_] ++ (c3 ++ r3))))[3 + j]? = _
    rw [List.getElem?_append_right (by simp only [List.length_cons, List.length_nil]; omega), List.getElem?_append_right (by simp only [List.length_cons, List.length_nil]; omega), List.getElem?_append_right (by simp only [List.length_cons, List.length_nil]; omega)]
    simp only [List.length_cons, List.length_nil]
    rw [show 3 + j - (0 + 1) - (0 + 1) - (0 + 1) = j by omega, List.getElem?_append_left (by omega)]
  · exact rec_of (by rw [List.toList_toArray]; exact g3) hz
  · exact i64_of_wf g1

/-! ### Room -/
theorem app_room {L : Lg} (r : Rc) (hl : ∀ m ∈ r.imgs, m.2.lsn ≤ 9223372036854775807) : (L.append r).1.n = L.n ∧ (L.append r).1.start = L.start ∧ (L.append r).1.res = L.res ∧ (L.append r).1.room = L.room - (((L.append r).1.tail : Int) - (L.tail : Int)) ∧ (0 ≤ L.room → 0 ≤ (L.append r).1.room) ∧ ((L.append r).2.2 ≠ 0 → (L.append r).1.tail = L.tail) := by
  unfold Lg.append
  cases hc : decide ((rCheck (atR r L.tail)).2 = 0) with
  | false =>
    rw [cond_false]
    exact ⟨rfl, rfl, rfl, by simp, fun h => h, fun _ => rfl⟩
  | true =>
    rw [cond_true]
    cases hr : decide (L.room < ((rEnc (atR r L.tail)).1.length : Int)) with
    | true =>
      rw [cond_true]
      exact ⟨rfl, rfl, rfl, by simp, fun h => h, fun _ => rfl⟩
    | false =>
      rw [cond_false]
      rw [decide_eq_false_iff_not] at hr
      generalize (rEnc (atR r L.tail)).1 = E at hr
      have ht : ({ L with kept := L.kept ++ E, recs := setD L.recs (L.tail : Int) (atR r L.tail) } : Lg).tail = L.tail + E.length := by
        show L.base + (L.kept ++ E).length = L.base + L.kept.length + E.length
        rw [List.length_append]; omega
      have hrm : ({ L with kept := L.kept ++ E, recs := setD L.recs (L.tail : Int) (atR r L.tail) } : Lg).room = L.room - (E.length : Int) := by
        show 54 * ((L.n : Int) - 2) - ((({ L with kept := L.kept ++ E, recs := setD L.recs (L.tail : Int) (atR r L.tail) } : Lg).tail : Int) - (L.start : Int)) - L.res = 54 * ((L.n : Int) - 2) - ((L.tail : Int) - (L.start : Int)) - L.res - (E.length : Int)
        rw [ht]; omega
      refine ⟨rfl, rfl, rfl, ?_, fun _ => ?_, fun e => absurd rfl e⟩
      · show ({ L with kept := L.kept ++ E, recs := setD L.recs (L.tail : Int) (atR r L.tail) } : Lg).room = L.room - ((({ L with kept := L.kept ++ E, recs := setD L.recs (L.tail : Int) (atR r L.tail) } : Lg).tail : Int) - (L.tail : Int))
        rw [hrm, ht]; omega
      · show 0 ≤ ({ L with kept := L.kept ++ E, recs := setD L.recs (L.tail : Int) (atR r L.tail) } : Lg).room
        rw [hrm]; omega
theorem res_room (L : Lg) (k : Int) : (decide ((L.reserve k).2 = 0)) = (decide (0 ≤ k) && decide (k ≤ L.room)) ∧ (L.reserve k).1.n = L.n ∧ (L.reserve k).1.start = L.start ∧ (L.reserve k).1.tail = L.tail ∧ (L.reserve k).1.res = L.res + (if (L.reserve k).2 = 0 then k else 0) ∧ (0 ≤ L.room → 0 ≤ (L.reserve k).1.room) := by
  unfold Lg.reserve
  cases h1 : decide (k < 0) with
  | true =>
    rw [decide_eq_true_eq] at h1
    have : decide (0 ≤ k) = false := by rw [decide_eq_false_iff_not]; omega
    rw [cond_true, this]
    exact ⟨rfl, rfl, rfl, rfl, by simp, fun h => h⟩
  | false =>
    rw [decide_eq_false_iff_not] at h1
    have e1 : decide (0 ≤ k) = true := by rw [decide_eq_true_eq]; omega
    rw [cond_false, e1]
    cases h2 : decide (L.room < k) with
    | true =>
      rw [decide_eq_true_eq] at h2
      have : decide (k ≤ L.room) = false := by rw [decide_eq_false_iff_not]; omega
      rw [cond_true, this]
      exact ⟨rfl, rfl, rfl, rfl, by simp, fun h => h⟩
    | false =>
      rw [decide_eq_false_iff_not] at h2
      have : decide (k ≤ L.room) = true := by rw [decide_eq_true_eq]; omega
      rw [cond_false, this]
      refine ⟨rfl, rfl, rfl, rfl, rfl, fun h => ?_⟩
      show 0 ≤ 54 * ((L.n : Int) - 2) - ((L.tail : Int) - (L.start : Int)) - (L.res + k)
      unfold Lg.room at h2
      omega
theorem rel_room {L : Lg} (k : Int) (hr : 0 ≤ L.res) : (decide ((L.release k).2 = 0)) = (decide (0 ≤ k) && decide (k ≤ L.res)) ∧ (L.release k).1.n = L.n ∧ (L.release k).1.start = L.start ∧ (L.release k).1.tail = L.tail ∧ (L.release k).1.res = L.res - (if (L.release k).2 = 0 then k else 0) ∧ (0 ≤ L.room → 0 ≤ (L.release k).1.room) := by
  unfold Lg.release
  cases h1 : decide (k < 0) with
  | true =>
    rw [decide_eq_true_eq] at h1
    have : decide (0 ≤ k) = false := by rw [decide_eq_false_iff_not]; omega
    rw [Bool.true_or, cond_true, this]
    exact ⟨rfl, rfl, rfl, rfl, by simp, fun h => h⟩
  | false =>
    rw [decide_eq_false_iff_not] at h1
    have e1 : decide (0 ≤ k) = true := by rw [decide_eq_true_eq]; omega
    rw [Bool.false_or, e1]
    cases h2 : decide (L.res < k) with
    | true =>
      rw [decide_eq_true_eq] at h2
      have : decide (k ≤ L.res) = false := by rw [decide_eq_false_iff_not]; omega
      rw [cond_true, this]
      exact ⟨rfl, rfl, rfl, rfl, by simp, fun h => h⟩
    | false =>
      rw [decide_eq_false_iff_not] at h2
      have : decide (k ≤ L.res) = true := by rw [decide_eq_true_eq]; omega
      rw [cond_false, this]
      refine ⟨rfl, rfl, rfl, rfl, rfl, fun h => ?_⟩
      show 0 ≤ 54 * ((L.n : Int) - 2) - ((L.tail : Int) - (L.start : Int)) - (L.res - k)
      unfold Lg.room at h
      omega
end Go.Proofs.YthbngnlmgplijaaGreatDoor

namespace Go.Proofs.YthbngnlmgplijaaGreatDoor
open Go.Al Go.Proofs
set_option linter.unusedVariables false
set_option linter.unusedSimpArgs false
set_option linter.unusedSectionVars false
set_option maxRecDepth 100000

set_option maxHeartbeats 8000000 in
theorem wroom_law {w : World} {v : Value} {xs : List OpT} (hv : SliceAs vOp w v xs) (hz : (xs.map opSz).sum + 1 ≤ 1048576) : Cl Tryz.prog 4 [v] w fun r w' => r = .bool true ∧ Fm (fun _ => False) w w' := by
  have hsum := ops_sum (l := xs)
  refine c4 ?_; unfold T4
  refine (dnew_spec w 20).mono ?_
  rintro _ w1 ⟨_, h2⟩
  obtain ⟨b, g, m, rfl, hb, hg, hm, hd, hf1⟩ := h2 (by omega)
  clear h2
  have hlt := hd.lt
  have hcalm : Lg.Calm (Dk.mk0 20) := calm_mk0 (by omega)
  have hml : (Dk.mk0 20).cur.length = 20 := mk0_len 20
  change DAt w1 b g m (Dk.mk0 20) at hd
  simp only [RS0, RS1, RS2, RS3, RS4, RS5, bne_refl0]
  obtain ⟨hz0, _, _⟩ := calm_fmt hcalm (i := 0) (j := 20) (by omega) (by omega)
  refine (wformat_spec hd ((0 : Nat) : Int) ((20 : Nat) : Int)).mono ?_
  rintro _ w2 ⟨p, rfl, _, hf2, _, h3⟩
  obtain ⟨lb, X, rfl, hL2, hX⟩ := h3 hz0
  rw [hz0]
  simp only [Int.toNat_natCast] at hL2
  have hF2 : Fm (fun _ => False) w w2 := Fm.own hf1 hf2 (by rintro y (rfl | rfl | rfl) <;> assumption)
  have z1 := hf1.size
  have hXw : ∀ y, X y → w.heap.size ≤ y := fun y hy => by have := hX y hy; omega
  clear hX h3 hz0 hcalm hml hd hf2
  simp only [RS0, RS1, RS2, RS3, RS4, RS5, bne_refl0]
  refine ⟨fun vs w' => ∃ (i : Nat) (L : Lg) (X : Nat → Prop), vs = [iv L.res, iv (i : Int)] ∧ i ≤ xs.length ∧ LAt w' X lb b L ∧ L.n = 20 ∧ L.start = 1 ∧ 0 ≤ L.room ∧ (∀ y, X y → w.heap.size ≤ y) ∧ Fm (fun _ => False) w w',
    fun vs _ => (xs.length - nth vs 1).toNat, ⟨0, _, X, rfl, by omega, hL2, rfl, rfl, by decide, hXw, hF2⟩, ?_⟩
  clear hL2 hF2 hXw
  rintro _ w3 kv ivv ⟨i, L, X, hvs, hi, hL, hn, hst, hrm, hX, hF3⟩
  cases hvs
  have hbd : ∀ {L' : Lg} {w' : World} {X' : Nat → Prop}, LAt w' X' lb b L' → L'.n = 20 → L'.start = 1 → L'.room = 972 - ((L'.tail : Int) - (L'.start : Int)) - L'.res ∧ 1 ≤ L'.tail ∧ (L'.tail : Int) ≤ 8000100 ∧ 0 ≤ L'.res ∧ L'.res ≤ 4000000 := fun {L' w' X'} h h1 h2 => by
    have q1 := h.wf.st; have q2 := h.wf.res; have q3 := h.wf.small; have q4 := h.wf.bs
    have q5 := Lg.baseOf_le q1.1
    have q6 : L'.tail = L'.base + L'.kept.length := rfl
    refine ⟨by unfold Lg.room; rw [h1]; rfl, by omega, by omega, q2.1, q2.2⟩
  have hlv : lenV v = some (iv (xs.length : Int)) := hv.lenV
  by_cases hlt2 : i < xs.length
  · have hx : xs[i]? = some xs[i] := List.getElem?_eq_getElem hlt2
    have hmem := List.getElem_mem hlt2
    generalize xs[i] = x at hx hmem
    have d1 : decide ((i : Int) < (xs.length : Int)) = true := by rw [decide_eq_true_eq]; omega
    have e1 : IntKind.i64.wrap ((i : Int) + 1) = ((i + 1 : Nat) : Int) := by rw [wrap_id] <;> omega
    obtain ⟨ad, cs, hix, hc0, hc1, hc3, hR, hin⟩ := op_ld hv hx (by have := hsum.2 x hmem; omega)
    simp only [RS0, RS1, RS2, RS3, RS4, RS5, hlv, d1]
    refine (wroom_spec hL).mono ?_
    rintro _ w4 ⟨rfl, hf4⟩
    refine (wtail_spec (hL.keep0 hf4)).mono ?_
    rintro _ w5 ⟨rfl, hf5⟩
    have hL5 := (hL.keep0 hf4).keep0 hf5
    have hF5 := Fmf hF3 (Fmf hf4 hf5)
    obtain ⟨b1, b2, b3, b4, b5⟩ := hbd hL5 hn hst
    have k0 := hF5.cell' hc0 (fun e => e)
    have k1 := hF5.cell' hc1 (fun e => e)
    have k3 := cellsV_keep hc3 hF5 (fun e => e)
    simp only [RS0, RS1, RS2, RS3, RS4, RS5, hix, k1]
    refine Jn_at (fun vs w' => ∃ (L' : Lg) (X' : Nat → Prop), vs = [iv L'.res] ∧ LAt w' X' lb b L' ∧ L'.n = 20 ∧ L'.start = 1 ∧ 0 ≤ L'.room ∧ (∀ y, X' y → w.heap.size ≤ y) ∧ Fm (fun _ => False) w w') ?_ ?_
    · rintro _ w6 ⟨L', X', rfl, hL6, hn6, hst6, hrm6, hX6, hF6⟩ _
      refine ⟨_, rfl, ?_⟩
      obtain ⟨c1, c2, c3, c4, c5⟩ := hbd hL6 hn6 hst6
      refine (wroom_spec hL6).mono ?_
      rintro _ w7 ⟨rfl, hf7⟩
      have d2 : decide (L'.room < 0) = false := by rw [decide_eq_false_iff_not]; omega
      simp only [RS0, RS1, RS2, RS3, RS4, RS5, d2]
      refine (wroom_spec (hL6.keep0 hf7)).mono ?_
      rintro _ w8 ⟨rfl, hf8⟩
      have hF8 := Fmf hf7 hf8
      try simp only [RS0, RS1, RS2, RS3, RS4, RS5]
      refine (wtail_spec (hL6.keep0 hF8)).mono ?_
      rintro _ w9 ⟨rfl, hf9⟩
      have hF9 := Fmf hF8 hf9
      try simp only [RS0, RS1, RS2, RS3, RS4, RS5]
      refine (wstart_spec (hL6.keep0 hF9)).mono ?_
      rintro _ w10 ⟨rfl, hf10⟩
      have hF10 := Fmf hF9 hf10
      have w1' : IntKind.i64.wrap ((L'.tail : Int) - (L'.start : Int)) = (L'.tail : Int) - (L'.start : Int) := by rw [wrap_id]; omega
      have w2' : IntKind.i64.wrap (972 - ((L'.tail : Int) - (L'.start : Int))) = 972 - ((L'.tail : Int) - (L'.start : Int)) := by rw [wrap_id]; omega
      have w3' : IntKind.i64.wrap (972 - ((L'.tail : Int) - (L'.start : Int)) - L'.res) = L'.room := by rw [c1, wrap_id]; omega
      simp only [RS0, RS1, RS2, RS3, RS4, RS5, w1', w2', w3', bne_self_eq_false, e1]
      exact ⟨⟨i + 1, L', X', rfl, by omega, hL6.keep0 hF10, hn6, hst6, hrm6, hX6, Fmf hF6 hF10⟩, by simp only [nth_1]; omega⟩
    intro kk hkk
    simp only [RS0, RS1, RS2, RS3, RS4, RS5, hix, k0, beq_dec]
    cases q0 : decide (x.1 = 0) with
    | true =>
      simp only [RS0, RS1, RS2, RS3, RS4, RS5, hix, k3]
      refine (wappend_spec hL5 (cs := cs) (r := rcOf x.2.2.2.1) (fun w' hf => hR.keep (Fm.own hF5 hf hX))).mono ?_
      rintro _ w6 ⟨rfl, X', hL6, hX6, hf6⟩
      obtain ⟨a1, a2, a3, a4, a5, a6⟩ := app_room (L := L) (rcOf x.2.2.2.1) hR.lsns
      generalize L.append (rcOf x.2.2.2.1) = A at hL6 a1 a2 a3 a4 a5 a6
      have hX6w : ∀ y, X' y → w.heap.size ≤ y := fun y hy => by
        rcases hX6 y hy with e | e
        · exact hX y e
        · have := hF5.size; omega
      have hF6 : Fm (fun _ => False) w w6 := Fm.own hF5 hf6 hX
      have hn6 : A.1.n = 20 := by rw [a1]; exact hn
      have hst6 : A.1.start = 1 := by rw [a2]; exact hst
      obtain ⟨c1, c2, c3, c4, c5⟩ := hbd hL6 hn6 hst6
      have w1' : IntKind.i64.wrap ((A.1.tail : Int) - (L.tail : Int)) = (A.1.tail : Int) - (L.tail : Int) := by rw [wrap_id]; omega
      have w2' : IntKind.i64.wrap (L.room - ((A.1.tail : Int) - (L.tail : Int))) = A.1.room := by rw [a4, wrap_id]; omega
      simp only [RS0, RS1, RS2, RS3, RS4, RS5, bne_dec]
      cases hz6 : decide (A.2.2 = 0) with
      | true =>
        simp only [RS0, RS1, RS2, RS3, RS4, RS5, Bool.not_true]
        refine (wroom_spec hL6).mono ?_
        rintro _ w7 ⟨rfl, hf7⟩
        try simp only [RS0, RS1, RS2, RS3, RS4, RS5]
        refine (wtail_spec (hL6.keep0 hf7)).mono ?_
        rintro _ w8 ⟨rfl, hf8⟩
        have hF8 := Fmf hf7 hf8
        simp only [RS0, RS1, RS2, RS3, RS4, RS5, w1', w2', bne_self_eq_false]
        exact hkk _ _ ⟨A.1, X', by rw [a3], hL6.keep0 hF8, hn6, hst6, a5 hrm, hX6w, Fmf hF6 hF8⟩
      | false =>
        rw [decide_eq_false_iff_not] at hz6
        have ht6 := a6 hz6
        simp only [RS0, RS1, RS2, RS3, RS4, RS5, Bool.not_false]
        refine (wtail_spec hL6).mono ?_
        rintro _ w7 ⟨rfl, hf7⟩
        have dt : ((A.1.tail : Int) != (L.tail : Int)) = false := by rw [ht6]; simp
        simp only [RS0, RS1, RS2, RS3, RS4, RS5, dt]
        refine (wroom_spec (hL6.keep0 hf7)).mono ?_
        rintro _ w8 ⟨rfl, hf8⟩
        have hF8 := Fmf hf7 hf8
        try simp only [RS0, RS1, RS2, RS3, RS4, RS5]
        refine (wtail_spec (hL6.keep0 hF8)).mono ?_
        rintro _ w9 ⟨rfl, hf9⟩
        have hF9 := Fmf hF8 hf9
        simp only [RS0, RS1, RS2, RS3, RS4, RS5, w1', w2', bne_self_eq_false]
        exact hkk _ _ ⟨A.1, X', by rw [a3], hL6.keep0 hF9, hn6, hst6, a5 hrm, hX6w, Fmf hF6 hF9⟩
    | false =>
    simp only [RS0, RS1, RS2, RS3, RS4, RS5]
    cases q1 : decide (x.1 = 1) with
    | true =>
      simp only [RS0, RS1, RS2, RS3, RS4, RS5]
      refine (wreserve_spec hL5 x.2.1).mono ?_
      rintro _ w6 ⟨rfl, hL6, hf6⟩
      obtain ⟨a1, a2, a3, a4, a5, a6⟩ := res_room L x.2.1
      generalize L.reserve x.2.1 = A at hL6 a1 a2 a3 a4 a5 a6
      have hF6 : Fm (fun _ => False) w w6 := Fm.own hF5 hf6 (by rintro y rfl; exact hX _ hL5.lb)
      have hn6 : A.1.n = 20 := by rw [a2]; exact hn
      have hst6 : A.1.start = 1 := by rw [a3]; exact hst
      try simp only [RS0, RS1, RS2, RS3, RS4, RS5]
      cases p1 : decide (0 ≤ x.2.1) with
      | false =>
        rw [p1, Bool.false_and] at a1
        have hne : ¬ A.2 = 0 := by rw [← decide_eq_false_iff_not]; exact a1
        rw [if_neg hne] at a5
        simp only [RS0, RS1, RS2, RS3, RS4, RS5, beq_dec, a1, bne_self_eq_false]
        exact hkk _ _ ⟨A.1, X, by rw [a5, Int.add_zero], hL6, hn6, hst6, a6 hrm, hX, hF6⟩
      | true =>
        rw [p1, Bool.true_and] at a1
        try simp only [RS0, RS1, RS2, RS3, RS4, RS5]
        cases p2 : decide (x.2.1 ≤ L.room) with
        | false =>
          rw [p2] at a1
          have hne : ¬ A.2 = 0 := by rw [← decide_eq_false_iff_not]; exact a1
          rw [if_neg hne] at a5
          simp only [RS0, RS1, RS2, RS3, RS4, RS5, beq_dec, a1, bne_self_eq_false]
          exact hkk _ _ ⟨A.1, X, by rw [a5, Int.add_zero], hL6, hn6, hst6, a6 hrm, hX, hF6⟩
        | true =>
          rw [p2] at a1
          have heq : A.2 = 0 := by rw [← decide_eq_true_eq (p := A.2 = 0)]; exact a1
          rw [if_pos heq] at a5
          rw [decide_eq_true_eq] at p1 p2
          have e2 : IntKind.i64.wrap (L.res + x.2.1) = A.1.res := by rw [a5, wrap_id]; omega
          simp only [RS0, RS1, RS2, RS3, RS4, RS5, beq_dec, a1, bne_self_eq_false, e2]
          exact hkk _ _ ⟨A.1, X, rfl, hL6, hn6, hst6, a6 hrm, hX, hF6⟩
    | false =>
    simp only [RS0, RS1, RS2, RS3, RS4, RS5]
    cases q2 : decide (x.1 = 2) with
    | true =>
      simp only [RS0, RS1, RS2, RS3, RS4, RS5]
      refine (wrelease_spec hL5 x.2.1).mono ?_
      rintro _ w6 ⟨rfl, hL6, hf6⟩
      obtain ⟨a1, a2, a3, a4, a5, a6⟩ := rel_room (L := L) x.2.1 b4
      generalize L.release x.2.1 = A at hL6 a1 a2 a3 a4 a5 a6
      have hF6 : Fm (fun _ => False) w w6 := Fm.own hF5 hf6 (by rintro y rfl; exact hX _ hL5.lb)
      have hn6 : A.1.n = 20 := by rw [a2]; exact hn
      have hst6 : A.1.start = 1 := by rw [a3]; exact hst
      try simp only [RS0, RS1, RS2, RS3, RS4, RS5]
      cases p1 : decide (0 ≤ x.2.1) with
      | false =>
        rw [p1, Bool.false_and] at a1
        have hne : ¬ A.2 = 0 := by rw [← decide_eq_false_iff_not]; exact a1
        rw [if_neg hne] at a5
        simp only [RS0, RS1, RS2, RS3, RS4, RS5, beq_dec, a1, bne_self_eq_false]
        exact hkk _ _ ⟨A.1, X, by rw [a5, Int.sub_zero], hL6, hn6, hst6, a6 hrm, hX, hF6⟩
      | true =>
        rw [p1, Bool.true_and] at a1
        try simp only [RS0, RS1, RS2, RS3, RS4, RS5]
        cases p2 : decide (x.2.1 ≤ L.res) with
        | false =>
          rw [p2] at a1
          have hne : ¬ A.2 = 0 := by rw [← decide_eq_false_iff_not]; exact a1
          rw [if_neg hne] at a5
          simp only [RS0, RS1, RS2, RS3, RS4, RS5, beq_dec, a1, bne_self_eq_false]
          exact hkk _ _ ⟨A.1, X, by rw [a5, Int.sub_zero], hL6, hn6, hst6, a6 hrm, hX, hF6⟩
        | true =>
          rw [p2] at a1
          have heq : A.2 = 0 := by rw [← decide_eq_true_eq (p := A.2 = 0)]; exact a1
          rw [if_pos heq] at a5
          rw [decide_eq_true_eq] at p1 p2
          have e2 : IntKind.i64.wrap (L.res - x.2.1) = A.1.res := by rw [a5, wrap_id]; omega
          simp only [RS0, RS1, RS2, RS3, RS4, RS5, beq_dec, a1, bne_self_eq_false, e2]
          exact hkk _ _ ⟨A.1, X, rfl, hL6, hn6, hst6, a6 hrm, hX, hF6⟩
    | false =>
    simp only [RS0, RS1, RS2, RS3, RS4, RS5]
    exact hkk _ _ ⟨L, X, rfl, hL5, hn, hst, hrm, hX, hF5⟩
  · have d1 : decide ((i : Int) < (xs.length : Int)) = false := by rw [decide_eq_false_iff_not]; omega
    simp only [RS0, RS1, RS2, RS3, RS4, RS5, hlv, d1]
    refine (waw_spec w3).mono ?_
    rintro _ w4 ⟨rfl, hf4⟩
    exact ⟨rfl, Fmf hF3 hf4⟩
end Go.Proofs.YthbngnlmgplijaaGreatDoor
