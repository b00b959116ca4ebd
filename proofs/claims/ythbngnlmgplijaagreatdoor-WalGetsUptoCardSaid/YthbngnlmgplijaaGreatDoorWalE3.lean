/- How what comes in is read: a page, a text, a number. How records are read, and how much of them. No room is lost. No room is lost: the law. A record is got; what stands ahead of a place is given up. Whether two records are the same, by the document. Each record from the start on is got as it was appended, and nothing else: the law. -/
import Derived.Test.YthbngnlmgplijaaGreatDoorPgSame
import Derived.Test.YthbngnlmgplijaaGreatDoorRcSame
import Derived.Test.YthbngnlmgplijaaGreatDoorAlUpto
import Derived.Test.YthbngnlmgplijaaGreatDoorWalD
namespace Go.Proofs.YthbngnlmgplijaaGreatDoor
open Go.Al Go.Proofs
set_option linter.unusedVariables false
set_option maxRecDepth 100000
def vI : Vw Tryz.prog 3 Int := vInt .i64 Tryz.underlying3 (by kernel_rfl)
def vB : Vw Tryz.prog 4 Bool := vBool Tryz.underlying4 (by kernel_rfl)
def vU8 : Vw Tryz.prog 5 Int := vInt .u8 Tryz.underlying5 (by kernel_rfl)
def vS : Vw Tryz.prog 9 Bs := vStr Tryz.underlying9 (by kernel_rfl)
def vSs : Vw Tryz.prog 59 (List Bs) := vSlice Tryz.underlying59 (by kernel_rfl) vS
abbrev PgT := Int × Int × Int × Int × Bs × List Bs × Unit
def vPage : Vw Tryz.prog 61 PgT := vStruct Tryz.underlying61 (fvCons rfl 1 (by kernel_rfl) vI (fvCons rfl 1 (by kernel_rfl) vI (fvCons rfl 1 (by kernel_rfl) vI (fvCons rfl 1 (by kernel_rfl) vI (fvCons rfl 1 (by kernel_rfl) vS (fvCons rfl 1 (by kernel_rfl) vSs fvNil)))))) (by kernel_rfl)
def pgOf (x : PgT) : Pg := ⟨x.1, x.2.1, x.2.2.1, x.2.2.2.1, x.2.2.2.2.1, x.2.2.2.2.2.1⟩
/-- A page that came in. -/
structure PgIn (w : World) (cs : Array Value) (p : Pg) : Prop where
  isA : PgAs w cs p
  many : p.items.length * 16 ≤ 140737488351232
  small : (∀ x ∈ p.items, x.length ≤ 140737488351232) ∧ p.high.length ≤ 140737488351232
theorem page_of {w : World} {cs : Array Value} {x : PgT} (h : vPage.rel w cs.toList x) : PgIn w cs (pgOf x) := by
  obtain ⟨lsn, kind, level, right, high, items, u⟩ := x
  obtain ⟨c0, r0, he, ⟨rfl, h0⟩, c1, r1, rfl, ⟨rfl, h1⟩, c2, r2, rfl, ⟨rfl, h2⟩, c3, r3, rfl, ⟨rfl, h3⟩, c4, r4, rfl, ⟨rfl, h4⟩, c5, r5, rfl, ⟨im, rfl, him⟩, h6⟩ := h
  cases h6
  simp only at h0 h1 h2 h3 h4 him
  have hc := him.cells (f := stv) (by kernel_rfl) (fun cs x hx => hx.1)
  have hsm := him.small
  rw [show Tryz.prog.bytesOf 9 = 16 by kernel_rfl] at hsm
  unfold reachBytes at hsm h4
  have hone : im.oneCell' = true := by obtain ⟨⟨a, cap, rfl, _⟩, _⟩ := him; rfl
  have hit : ∀ x ∈ items, x.length ≤ 140737488351232 := by
    intro x hx
    obtain ⟨i, hi⟩ := List.getElem?_of_mem hx
    obtain ⟨ad, cs', _, hr, _⟩ := him.at hi (c := 1) (by kernel_rfl) .i64
    have := hr.2
    unfold reachBytes at this
    omega
  have hcs : cs = pcs (pgOf (lsn, kind, level, right, high, items, u)) im := by
    apply Array.ext'
    rw [he]; rfl
  refine ⟨⟨⟨im, hcs, hone, hc⟩, fun x hx => by have := hit x hx; omega, i64_of_wf h0, i64_of_wf h1, i64_of_wf h2, i64_of_wf h3, by show high.length ≤ _; omega, by show items.length * 16 ≤ _; omega⟩, by show items.length * 16 ≤ _; omega, hit, by show high.length ≤ _; omega⟩
end Go.Proofs.YthbngnlmgplijaaGreatDoor

namespace Go.Proofs.YthbngnlmgplijaaGreatDoor
open Go.Al Go.Proofs
set_option linter.unusedVariables false
set_option linter.unusedSimpArgs false
set_option linter.unusedSectionVars false
set_option maxRecDepth 100000
def vKind : Vw Tryz.prog 22 Int := vInt .u8 Tryz.underlying22 (by kernel_rfl)
def vInts : Vw Tryz.prog 23 (List Int) := vSlice Tryz.underlying23 (by kernel_rfl) vI
abbrev ImgT := Int × PgT × Unit
abbrev PrT := Int × Int × Unit
def vImg : Vw Tryz.prog 118 ImgT := vStruct Tryz.underlying118 (fvCons rfl 1 (by kernel_rfl) vI (fvCons rfl 6 (by kernel_rfl) vPage fvNil)) (by kernel_rfl)
def vImgs : Vw Tryz.prog 24 (List ImgT) := vSlice Tryz.underlying24 (by kernel_rfl) vImg
def vOwed : Vw Tryz.prog 120 PrT := vStruct Tryz.underlying120 (fvCons rfl 1 (by kernel_rfl) vI (fvCons rfl 1 (by kernel_rfl) vI fvNil)) (by kernel_rfl)
def vOweds : Vw Tryz.prog 25 (List PrT) := vSlice Tryz.underlying25 (by kernel_rfl) vOwed
def vBeg : Vw Tryz.prog 122 PrT := vStruct Tryz.underlying122 (fvCons rfl 1 (by kernel_rfl) vI (fvCons rfl 1 (by kernel_rfl) vI fvNil)) (by kernel_rfl)
def vBegs : Vw Tryz.prog 26 (List PrT) := vSlice Tryz.underlying26 (by kernel_rfl) vBeg
abbrev RecT := Int × Int × Int × Int × Int × Int × Int × Int × Int × Int × Bs × List Int × List Int × List ImgT × List PrT × List PrT × Unit
def vRec : Vw Tryz.prog 28 RecT := vStruct Tryz.underlying28 (fvCons rfl 1 (by kernel_rfl) vI (fvCons rfl 1 (by kernel_rfl) vI (fvCons rfl 1 (by kernel_rfl) vI (fvCons rfl 1 (by kernel_rfl) vKind (fvCons rfl 1 (by kernel_rfl) vI (fvCons rfl 1 (by kernel_rfl) vI (fvCons rfl 1 (by kernel_rfl) vI (fvCons rfl 1 (by kernel_rfl) vI (fvCons rfl 1 (by kernel_rfl) vI (fvCons rfl 1 (by kernel_rfl) vI (fvCons rfl 1 (by kernel_rfl) vS (fvCons rfl 1 (by kernel_rfl) vInts (fvCons rfl 1 (by kernel_rfl) vInts (fvCons rfl 1 (by kernel_rfl) vImgs (fvCons rfl 1 (by kernel_rfl) vOweds (fvCons rfl 1 (by kernel_rfl) vBegs fvNil)))))))))))))))) (by kernel_rfl)
def recSz (x : RecT) : Nat := (1 + (1 + (1 + (1 + (1 + (1 + (1 + (1 + (1 + (1 + (1 + ((((x.2.2.2.2.2.2.2.2.2.2.2.1).map fun _ => 1).sum + 1) + ((((x.2.2.2.2.2.2.2.2.2.2.2.2.1).map fun _ => 1).sum + 1) + ((((x.2.2.2.2.2.2.2.2.2.2.2.2.2.1).map fun _ => 1).sum + 1) + ((((x.2.2.2.2.2.2.2.2.2.2.2.2.2.2.1).map fun _ => 1).sum + 1) + ((((x.2.2.2.2.2.2.2.2.2.2.2.2.2.2.2.1).map fun _ => 1).sum + 1) + 0))))))))))))))))
theorem vRec_szd : Szd vRec recSz := Szd.struct (SzF.cons (Szd.one _) (SzF.cons (Szd.one _) (SzF.cons (Szd.one _) (SzF.cons (Szd.one _) (SzF.cons (Szd.one _) (SzF.cons (Szd.one _) (SzF.cons (Szd.one _) (SzF.cons (Szd.one _) (SzF.cons (Szd.one _) (SzF.cons (Szd.one _) (SzF.cons (Szd.one _) (SzF.cons (Szd.slice (Szd.one _)) (SzF.cons (Szd.slice (Szd.one _)) (SzF.cons (Szd.slice (Szd.one _)) (SzF.cons (Szd.slice (Szd.one _)) (SzF.cons (Szd.slice (Szd.one _)) SzF.nil))))))))))))))))
theorem ones_sum {α : Type} (l : List α) : (l.map fun _ => 1).sum = l.length := by
  induction l with
  | nil => rfl
  | cons a l ih => simp only [List.map_cons, List.sum_cons, ih, List.length_cons]; omega
def rcOf (x : RecT) : Rc := ⟨x.1, x.2.1, x.2.2.1, x.2.2.2.1, x.2.2.2.2.1, x.2.2.2.2.2.1, x.2.2.2.2.2.2.1, x.2.2.2.2.2.2.2.1, x.2.2.2.2.2.2.2.2.1, x.2.2.2.2.2.2.2.2.2.1, x.2.2.2.2.2.2.2.2.2.2.1, x.2.2.2.2.2.2.2.2.2.2.2.1, x.2.2.2.2.2.2.2.2.2.2.2.2.1, x.2.2.2.2.2.2.2.2.2.2.2.2.2.1.map fun m => (m.1, pgOf m.2.1), x.2.2.2.2.2.2.2.2.2.2.2.2.2.2.1.map fun p => (p.1, p.2.1), x.2.2.2.2.2.2.2.2.2.2.2.2.2.2.2.1.map fun p => (p.1, p.2.1)⟩
theorem bulk_of {x : RecT} (h : recSz x ≤ 1048576) : (rcOf x).slots.length + (rcOf x).more.length + (rcOf x).imgs.length + (rcOf x).pages.length + (rcOf x).txns.length ≤ 2000000 := by
  unfold recSz at h
  simp only [ones_sum] at h
  simp only [rcOf, List.length_map]
  omega
theorem int_in {w : World} {v : Value} {xs : List Int} (h : SliceAs vI w v xs) : ∀ n ∈ xs, In n := fun n hn => by
  obtain ⟨i, hi⟩ := List.getElem?_of_mem hn
  obtain ⟨⟨a, cap, rfl, h1, h2, h3, h4⟩, _⟩ := h
  obtain ⟨ad, cs', g1, g2, g3⟩ := h4 i n hi
  exact i64_of_wf g2.2
theorem pr_rel {w : World} {cs : List Value} {x : PrT} (h : vOwed.rel w cs x) : cs = pc2 (x.1, x.2.1) ∧ In x.1 ∧ In x.2.1 := by
  obtain ⟨a, b, u⟩ := x
  obtain ⟨c0, r0, he, ⟨rfl, h0⟩, c1, r1, rfl, ⟨rfl, h1⟩, h6⟩ := h
  cases h6
  exact ⟨he, i64_of_wf h0, i64_of_wf h1⟩
theorem pr_rel' {w : World} {cs : List Value} {x : PrT} (h : vBeg.rel w cs x) : cs = pc2 (x.1, x.2.1) ∧ In x.1 ∧ In x.2.1 := by
  obtain ⟨a, b, u⟩ := x
  obtain ⟨c0, r0, he, ⟨rfl, h0⟩, c1, r1, rfl, ⟨rfl, h1⟩, h6⟩ := h
  cases h6
  exact ⟨he, i64_of_wf h0, i64_of_wf h1⟩
/-- Elements of n cells each that are known, as a run. -/
theorem cells_run {β : Type} {a : Option Addr} {w : World} {cap n : Nat} {f : β → List Value} (hf : ∀ y, (f y).length = n) (hn : 0 < n) {X : List β} (h1 : X.length ≤ cap) (h2 : cap ≤ maxLen) (h3 : a = none → X.length = 0 ∧ cap = 0)
    (h4 : ∀ i y, X[i]? = some y → ∃ ad, a = some ad ∧ ∀ j, j < n → w.cell? (ad.add (i * n + j)) = (f y)[j]?) : CellsAt w (.slice a X.length cap) X.length n (X.flatMap f) := by
  refine ⟨⟨a, cap, rfl, h1, h2, h3, fun j u hj => ?_⟩, flat_len hf X⟩
  have hlt := (List.getElem?_eq_some_iff.1 hj).1
  rw [flat_len hf] at hlt
  have hi : j / n < X.length := (Nat.div_lt_iff_lt_mul hn).2 hlt
  have hx : X[j / n]? = some X[j / n] := List.getElem?_eq_getElem hi
  obtain ⟨ad, g1, g2⟩ := h4 _ _ hx
  have hr : j % n < n := Nat.mod_lt _ hn
  have hjj : j / n * n + j % n = j := by rw [Nat.mul_comm]; exact Nat.div_add_mod j n
  have e1 := flat_get hf hx hr
  rw [hjj, hj] at e1
  have e2 := g2 _ hr
  rw [hjj, ← e1] at e2
  exact ⟨ad, g1, e2⟩
theorem prs_of {w : World} {v : Value} {xs : List PrT} {e : TypeId} {A : Vw Tryz.prog e PrT} (hc : Tryz.prog.cellsOf e = 2) (hA : ∀ cs x, A.rel w cs x → cs = pc2 (x.1, x.2.1) ∧ In x.1 ∧ In x.2.1) (h : SliceAs A w v xs) :
    CellsAt w v (xs.map fun p => (p.1, p.2.1)).length 2 ((xs.map fun p => (p.1, p.2.1)).flatMap pc2) ∧ ∀ n ∈ prs (xs.map fun p => (p.1, p.2.1)), In n := by
  obtain ⟨⟨a, cap, rfl, h1, h2, h3, h4⟩, _⟩ := h
  have hl : (xs.map fun p => ((p.1, p.2.1) : Int × Int)).length = xs.length := List.length_map ..
  constructor
  · have := cells_run (w := w) (a := a) (cap := cap) pc2_len (by omega) (X := xs.map fun p => ((p.1, p.2.1) : Int × Int)) (by omega) h2 (by rw [hl]; exact h3) (fun i y hy => by
      rw [List.getElem?_map, Option.map_eq_some_iff] at hy
      obtain ⟨x, hx, rfl⟩ := hy
      obtain ⟨ad, cs', g1, g2, g3⟩ := h4 i x hx
      obtain ⟨rfl, _⟩ := hA _ _ g2
      rw [hc] at g3
      exact ⟨ad, g1, g3⟩)
    rw [hl] at this ⊢
    exact this
  · intro n hn
    obtain ⟨p, hp, e⟩ := mem_prs2 hn
    obtain ⟨x, hx, rfl⟩ := List.mem_map.1 hp
    obtain ⟨i, hi⟩ := List.getElem?_of_mem hx
    obtain ⟨ad, cs', g1, g2, g3⟩ := h4 i x hi
    obtain ⟨_, q1, q2⟩ := hA _ _ g2
    rcases e with rfl | rfl
    · exact q1
    · exact q2
theorem img_rel {w : World} {cs : List Value} {x : ImgT} (h : vImg.rel w cs x) : In x.1 ∧ ∃ u, cs = imC (x.1, pgOf x.2.1, u) ∧ u.oneCell' = true ∧ PgAs w (pcs (pgOf x.2.1) u) (pgOf x.2.1) := by
  obtain ⟨m, p, uu⟩ := x
  obtain ⟨c0, r0, he, ⟨rfl, h0⟩, c1, r1, rfl, hp, h6⟩ := h
  cases h6
  have hp' : vPage.rel w c1.toArray.toList p := by rw [List.toList_toArray]; exact hp
  have hpg := page_of hp'
  obtain ⟨u, e1, e2, e3⟩ := hpg.isA.ex
  refine ⟨i64_of_wf h0, u, ?_, e2, e1 ▸ hpg.isA⟩
  have : c1 = (pcs (pgOf p) u).toList := by rw [← e1]
  rw [he, this]
  simp [imC]
theorem imgs_of {w : World} {v : Value} {xs : List ImgT} (h : SliceAs vImg w v xs) : ImAs w v (xs.map fun m => (m.1, pgOf m.2.1)) ∧ (∀ n ∈ (xs.map fun m => ((m.1, pgOf m.2.1) : Int × Pg)).map (·.1), In n) ∧ ∀ m ∈ (xs.map fun m => ((m.1, pgOf m.2.1) : Int × Pg)), m.2.lsn ≤ 9223372036854775807 := by
  have hc : Tryz.prog.cellsOf 118 = 7 := by kernel_rfl
  obtain ⟨⟨a, cap, rfl, h1, h2, h3, h4⟩, _⟩ := h
  have key : ∀ i : Nat, ∃ u : Value, ∀ x, xs[i]? = some x → (u.oneCell' = true ∧ PgAs w (pcs (pgOf x.2.1) u) (pgOf x.2.1)) ∧ ∃ ad, a = some ad ∧ ∀ j, j < 7 → w.cell? (ad.add (i * 7 + j)) = (imC (x.1, pgOf x.2.1, u))[j]? := by
    intro i
    cases hx : xs[i]? with
    | none => exact ⟨nl, fun x hx => by cases hx⟩
    | some x =>
      obtain ⟨ad, cs', g1, g2, g3⟩ := h4 i x hx
      obtain ⟨_, u, rfl, q1, q2⟩ := img_rel g2
      rw [hc] at g3
      exact ⟨u, fun y hy => by cases hy; exact ⟨⟨q1, q2⟩, ad, g1, g3⟩⟩
  let g : Nat → Value := fun i => Classical.choose (key i)
  have hg : ∀ i x, xs[i]? = some x → ((g i).oneCell' = true ∧ PgAs w (pcs (pgOf x.2.1) (g i)) (pgOf x.2.1)) ∧ ∃ ad, a = some ad ∧ ∀ j, j < 7 → w.cell? (ad.add (i * 7 + j)) = (imC (x.1, pgOf x.2.1, g i))[j]? := fun i => Classical.choose_spec (key i)
  have hX : ∀ i, (xs.zipIdx.map fun y => ((y.1.1, pgOf y.1.2.1, g y.2) : Int × Pg × Value))[i]? = (xs[i]?).map fun x => (x.1, pgOf x.2.1, g i) := fun i => by
    rw [List.getElem?_map, List.getElem?_zipIdx]
    cases xs[i]? with
    | none => rfl
    | some x => simp
  have hXl : (xs.zipIdx.map fun y => ((y.1.1, pgOf y.1.2.1, g y.2) : Int × Pg × Value)).length = xs.length := by simp
  generalize (xs.zipIdx.map fun y => ((y.1.1, pgOf y.1.2.1, g y.2) : Int × Pg × Value)) = X at hX hXl
  refine ⟨⟨X, ?_, ?_, ?_⟩, ?_, ?_⟩
  · apply List.ext_getElem?
    intro i
    rw [List.getElem?_map, hX, List.getElem?_map]
    cases xs[i]? <;> rfl
  · have := cells_run (w := w) (a := a) (cap := cap) imC_len (by omega) (X := X) (by omega) h2 (by rw [hXl]; exact h3) (fun i y hy => by
      rw [hX, Option.map_eq_some_iff] at hy
      obtain ⟨x, hx, rfl⟩ := hy
      exact (hg i x hx).2)
    rw [hXl] at this ⊢
    exact this
  · intro y hy
    obtain ⟨i, hi⟩ := List.getElem?_of_mem hy
    rw [hX, Option.map_eq_some_iff] at hi
    obtain ⟨x, hx, rfl⟩ := hi
    exact (hg i x hx).1
  · intro n hn
    rw [List.map_map] at hn
    obtain ⟨x, hx, rfl⟩ := List.mem_map.1 hn
    obtain ⟨i, hi⟩ := List.getElem?_of_mem hx
    obtain ⟨ad, cs', g1, g2, g3⟩ := h4 i x hi
    exact (img_rel g2).1
  · intro m hm
    obtain ⟨x, hx, rfl⟩ := List.mem_map.1 hm
    obtain ⟨i, hi⟩ := List.getElem?_of_mem hx
    exact (hg i x hi).1.2.ins.1.2
theorem rec_of {w : World} {cs : Array Value} {x : RecT} (h : vRec.rel w cs.toList x) (hz : recSz x ≤ 1048576) : RcAs w cs (rcOf x) := by
  have hbulk := bulk_of hz
  obtain ⟨y0, y1, y2, y3, y4, y5, y6, y7, y8, y9, y10, y11, y12, y13, y14, y15, uu⟩ := x
  obtain ⟨c0, r0, he, ⟨rfl, h0⟩, c1, r1, rfl, ⟨rfl, h1⟩, c2, r2, rfl, ⟨rfl, h2⟩, c3, r3, rfl, ⟨rfl, h3⟩, c4, r4, rfl, ⟨rfl, h4⟩, c5, r5, rfl, ⟨rfl, h5⟩, c6, r6, rfl, ⟨rfl, h6⟩, c7, r7, rfl, ⟨rfl, h7⟩, c8, r8, rfl, ⟨rfl, h8⟩, c9, r9, rfl, ⟨rfl, h9⟩, c10, r10, rfl, ⟨rfl, h10⟩, c11, r11, rfl, ⟨vs, rfl, h11⟩, c12, r12, rfl, ⟨vm, rfl, h12⟩, c13, r13, rfl, ⟨vi, rfl, h13⟩, c14, r14, rfl, ⟨vp, rfl, h14⟩, c15, r15, rfl, ⟨vt, rfl, h15⟩, hu⟩ := h
  cases hu
  simp only at h0 h1 h2 h3 h4 h5 h6 h7 h8 h9 h10 h11 h12 h13 h14 h15
  have one : ∀ {α : Type} {e : TypeId} {A : Vw Tryz.prog e α} {v : Value} {xs : List α}, SliceAs A w v xs → v.oneCell' = true := fun hh => by obtain ⟨⟨a, cap, rfl, _⟩, _⟩ := hh; rfl
  obtain ⟨i1, i2, i3⟩ := imgs_of h13
  obtain ⟨p1, p2⟩ := prs_of (by kernel_rfl) (fun _ _ hh => pr_rel hh) h14
  obtain ⟨t1, t2⟩ := prs_of (by kernel_rfl) (fun _ _ hh => pr_rel' hh) h15
  unfold reachBytes at h10
  have hk : 0 ≤ y3 ∧ y3 ≤ 255 := by
    simp only [Lit.wf, Bool.and_eq_true, decide_eq_true_eq] at h3
    exact h3
  refine ⟨⟨vs, vm, vi, vp, vt, ?_, ⟨one h11, one h12, one h13, one h14, one h15⟩, h11.cells (f := iv) (by kernel_rfl) (fun cs x hx => hx.1), h12.cells (f := iv) (by kernel_rfl) (fun cs x hx => hx.1), i1, p1, t1⟩, fun n hn => ?_, hk, by show y10.length ≤ _; omega, hbulk, i3⟩
  · apply Array.ext'
    rw [he]; rfl
  · unfold rNums at hn
    simp only [List.mem_append] at hn
    rcases hn with ((((hn | hn) | hn) | hn) | hn) | hn
    · simp only [rcOf, List.mem_cons, List.not_mem_nil, or_false] at hn
      rcases hn with rfl | rfl | rfl | rfl | rfl | rfl | rfl | rfl | rfl <;> (apply i64_of_wf; assumption)
    · exact int_in h11 n hn
    · exact int_in h12 n hn
    · exact i2 n hn
    · exact p2 n hn
    · exact t2 n hn

end Go.Proofs.YthbngnlmgplijaaGreatDoor

namespace Go.Proofs.YthbngnlmgplijaaGreatDoor
open Go.Al Go.Proofs
set_option linter.unusedVariables false
set_option linter.unusedSimpArgs false
set_option linter.unusedSectionVars false
set_option maxRecDepth 100000

abbrev OpT := Int × Int × Int × RecT × List Int × Unit
def vOp : Vw Tryz.prog 44 OpT := vStruct Tryz.underlying44 (fvCons rfl 1 (by kernel_rfl) vI (fvCons rfl 1 (by kernel_rfl) vI (fvCons rfl 1 (by kernel_rfl) vI (fvCons rfl 16 (by kernel_rfl) vRec (fvCons rfl 1 (by kernel_rfl) vInts fvNil))))) (by kernel_rfl)
def vOps : Vw Tryz.prog 35 (List OpT) := vSlice Tryz.underlying35 (by kernel_rfl) vOp
def opSz (x : OpT) : Nat := (1 + (1 + (1 + (recSz x.2.2.2.1 + ((((x.2.2.2.2.1).map fun _ => 1).sum + 1) + 0)))))
theorem vOp_szd : Szd vOp opSz := Szd.struct (SzF.cons (Szd.one _) (SzF.cons (Szd.one _) (SzF.cons (Szd.one _) (SzF.cons vRec_szd (SzF.cons (Szd.slice (Szd.one _)) SzF.nil)))))
theorem vOps_szd : Szd vOps (fun xs => (xs.map opSz).sum + 1) := Szd.slice vOp_szd
theorem ops_sum {l : List OpT} : l.length ≤ (l.map opSz).sum ∧ ∀ x ∈ l, recSz x.2.2.2.1 ≤ (l.map opSz).sum := by
  induction l with
  | nil => simp
  | cons x l ih =>
    have : 1 ≤ opSz x ∧ recSz x.2.2.2.1 ≤ opSz x := by unfold opSz; omega
    simp only [List.length_cons, List.map_cons, List.sum_cons]
    refine ⟨by omega, fun y hy => ?_⟩
    rcases List.mem_cons.1 hy with rfl | hy
    · omega
    · have := ih.2 y hy; omega
theorem op_ld {w : World} {v : Value} {xs : List OpT} (h : SliceAs vOp w v xs) {i : Nat} {x : OpT} (hx : xs[i]? = some x) (hz : recSz x.2.2.2.1 ≤ 1048576) :
    ∃ ad cs, ixV 20 v (iv (i : Int)) = some (.pointer (some ad)) ∧ w.cell? ad = some (iv x.1) ∧ w.cell? (ad.add 1) = some (iv x.2.1) ∧ cellsV w (ad.add 3) 16 = some (.agg cs) ∧ RcAs w cs (rcOf x.2.2.2.1) ∧ In x.2.1 := by
  have hc : Tryz.prog.cellsOf 44 = 20 := by kernel_rfl
  have hc28 : Tryz.prog.cellsOf 28 = 16 := by kernel_rfl
  obtain ⟨ad, cs', h1, h2, h3, h4⟩ := h.ld hx hc .i64
  obtain ⟨ask, n, near, r, how, u⟩ := x
  obtain ⟨c0, r0, he, ⟨rfl, g0⟩, c1, r1, rfl, ⟨rfl, g1⟩, c2, r2, rfl, ⟨rfl, g2⟩, c3, r3, rfl, g3, _⟩ := h2
  have hl3 : c3.length = 16 := by rw [← hc28]; exact vRec.len g3
  simp only at g1 hz
  subst he
  refine ⟨ad, c3.toArray, h1, ?_, ?_, ?_, ?_, ?_⟩
  · have := h4 0 (by omega)
    rw [Go.Al.add_zero] at this
    rw [this]; rfl
  · have := h4 1 (by omega)
    rw [this]; rfl
  · refine cellsV_of hl3 fun j hj => ?_
    rw [add_add, h4 (3 + j) (by omega)]
    show ([_] ++ ([_] ++ ([_] ++ (c3 ++ r3))))[3 + j]? = _
    rw [List.getElem?_append_right (by simp only [List.length_cons, List.length_nil]; omega), List.getElem?_append_right (by simp only [List.length_cons, List.length_nil]; omega), List.getElem?_append_right (by simp only [List.length_cons, List.length_nil]; omega)]
    simp only [List.length_cons, List.length_nil]
    rw [show 3 + j - (0 + 1) - (0 + 1) - (0 + 1) = j by omega, List.getElem?_append_left (by omega)]
  · exact rec_of (by rw [List.toList_toArray]; exact g3) hz
  · exact i64_of_wf g1

/-! ### Room -/
theorem app_room {L : Lg} (r : Rc) (hl : ∀ m ∈ r.imgs, m.2.lsn ≤ 9223372036854775807) : (L.append r).1.n = L.n ∧ (L.append r).1.start = L.start ∧ (L.append r).1.res = L.res ∧ (L.append r).1.room = L.room - (((L.append r).1.tail : Int) - (L.tail : Int)) ∧ (0 ≤ L.room → 0 ≤ (L.append r).1.room) ∧ ((L.append r).2.2 ≠ 0 → (L.append r).1.tail = L.tail) := by
  unfold Lg.append
  cases hc : decide ((rCheck (atR r L.tail)).2 = 0) with
  | false =>
    rw [cond_false]
    exact ⟨rfl, rfl, rfl, by simp, fun h => h, fun _ => rfl⟩
  | true =>
    rw [cond_true]
    cases hr : decide (L.room < ((rEnc (atR r L.tail)).1.length : Int)) with
    | true =>
      rw [cond_true]
      exact ⟨rfl, rfl, rfl, by simp, fun h => h, fun _ => rfl⟩
    | false =>
      rw [cond_false]
      rw [decide_eq_false_iff_not] at hr
      generalize (rEnc (atR r L.tail)).1 = E at hr
      have ht : ({ L with kept := L.kept ++ E, recs := setD L.recs (L.tail : Int) (atR r L.tail) } : Lg).tail = L.tail + E.length := by
        show L.base + (L.kept ++ E).length = L.base + L.kept.length + E.length
        rw [List.length_append]; omega
      have hrm : ({ L with kept := L.kept ++ E, recs := setD L.recs (L.tail : Int) (atR r L.tail) } : Lg).room = L.room - (E.length : Int) := by
        show 54 * ((L.n : Int) - 2) - ((({ L with kept := L.kept ++ E, recs := setD L.recs (L.tail : Int) (atR r L.tail) } : Lg).tail : Int) - (L.start : Int)) - L.res = 54 * ((L.n : Int) - 2) - ((L.tail : Int) - (L.start : Int)) - L.res - (E.length : Int)
        rw [ht]; omega
      refine ⟨rfl, rfl, rfl, ?_, fun _ => ?_, fun e => absurd rfl e⟩
      · show ({ L with kept := L.kept ++ E, recs := setD L.recs (L.tail : Int) (atR r L.tail) } : Lg).room = L.room - ((({ L with kept := L.kept ++ E, recs := setD L.recs (L.tail : Int) (atR r L.tail) } : Lg).tail : Int) - (L.tail : Int))
        rw [hrm, ht]; omega
      · show 0 ≤ ({ L with kept := L.kept ++ E, recs := setD L.recs (L.tail : Int) (atR r L.tail) } : Lg).room
        rw [hrm]; omega
theorem res_room (L : Lg) (k : Int) : (decide ((L.reserve k).2 = 0)) = (decide (0 ≤ k) && decide (k ≤ L.room)) ∧ (L.reserve k).1.n = L.n ∧ (L.reserve k).1.start = L.start ∧ (L.reserve k).1.tail = L.tail ∧ (L.reserve k).1.res = L.res + (if (L.reserve k).2 = 0 then k else 0) ∧ (0 ≤ L.room → 0 ≤ (L.reserve k).1.room) := by
  unfold Lg.reserve
  cases h1 : decide (k < 0) with
  | true =>
    rw [decide_eq_true_eq] at h1
    have : decide (0 ≤ k) = false := by rw [decide_eq_false_iff_not]; omega
    rw [cond_true, this]
    exact ⟨rfl, rfl, rfl, rfl, by simp, fun h => h⟩
  | false =>
    rw [decide_eq_false_iff_not] at h1
    have e1 : decide (0 ≤ k) = true := by rw [decide_eq_true_eq]; omega
    rw [cond_false, e1]
    cases h2 : decide (L.room < k) with
    | true =>
      rw [decide_eq_true_eq] at h2
      have : decide (k ≤ L.room) = false := by rw [decide_eq_false_iff_not]; omega
      rw [cond_true, this]
      exact ⟨rfl, rfl, rfl, rfl, by simp, fun h => h⟩
    | false =>
      rw [decide_eq_false_iff_not] at h2
      have : decide (k ≤ L.room) = true := by rw [decide_eq_true_eq]; omega
      rw [cond_false, this]
      refine ⟨rfl, rfl, rfl, rfl, rfl, fun h => ?_⟩
      show 0 ≤ 54 * ((L.n : Int) - 2) - ((L.tail : Int) - (L.start : Int)) - (L.res + k)
      unfold Lg.room at h2
      omega
theorem rel_room {L : Lg} (k : Int) (hr : 0 ≤ L.res) : (decide ((L.release k).2 = 0)) = (decide (0 ≤ k) && decide (k ≤ L.res)) ∧ (L.release k).1.n = L.n ∧ (L.release k).1.start = L.start ∧ (L.release k).1.tail = L.tail ∧ (L.release k).1.res = L.res - (if (L.release k).2 = 0 then k else 0) ∧ (0 ≤ L.room → 0 ≤ (L.release k).1.room) := by
  unfold Lg.release
  cases h1 : decide (k < 0) with
  | true =>
    rw [decide_eq_true_eq] at h1
    have : decide (0 ≤ k) = false := by rw [decide_eq_false_iff_not]; omega
    rw [Bool.true_or, cond_true, this]
    exact ⟨rfl, rfl, rfl, rfl, by simp, fun h => h⟩
  | false =>
    rw [decide_eq_false_iff_not] at h1
    have e1 : decide (0 ≤ k) = true := by rw [decide_eq_true_eq]; omega
    rw [Bool.false_or, e1]
    cases h2 : decide (L.res < k) with
    | true =>
      rw [decide_eq_true_eq] at h2
      have : decide (k ≤ L.res) = false := by rw [decide_eq_false_iff_not]; omega
      rw [cond_true, this]
      exact ⟨rfl, rfl, rfl, rfl, by simp, fun h => h⟩
    | false =>
      rw [decide_eq_false_iff_not] at h2
      have : decide (k ≤ L.res) = true := by rw [decide_eq_true_eq]; omega
      rw [cond_false, this]
      refine ⟨rfl, rfl, rfl, rfl, rfl, fun h => ?_⟩
      show 0 ≤ 54 * ((L.n : Int) - 2) - ((L.tail : Int) - (L.start : Int)) - (L.res - k)
      unfold Lg.room at h
      omega
end Go.Proofs.YthbngnlmgplijaaGreatDoor

namespace Go.Proofs.YthbngnlmgplijaaGreatDoor
open Go.Al Go.Proofs
set_option linter.unusedVariables false
set_option linter.unusedSimpArgs false
set_option linter.unusedSectionVars false
set_option maxRecDepth 100000

set_option maxHeartbeats 8000000 in
theorem wroom_law {w : World} {v : Value} {xs : List OpT} (hv : SliceAs vOp w v xs) (hz : (xs.map opSz).sum + 1 ≤ 1048576) : Cl Tryz.prog 4 [v] w fun r w' => r = .bool true ∧ Fm (fun _ => False) w w' := by
  have hsum := ops_sum (l := xs)
  refine c4 ?_; unfold T4
  refine (dnew_spec w 20).mono ?_
  rintro _ w1 ⟨_, h2⟩
  obtain ⟨b, g, m, rfl, hb, hg, hm, hd, hf1⟩ := h2 (by omega)
  clear h2
  have hlt := hd.lt
  have hcalm : Lg.Calm (Dk.mk0 20) := calm_mk0 (by omega)
  have hml : (Dk.mk0 20).cur.length = 20 := mk0_len 20
  change DAt w1 b g m (Dk.mk0 20) at hd
  simp only [RS0, RS1, RS2, RS3, RS4, RS5, bne_refl0]
  obtain ⟨hz0, _, _⟩ := calm_fmt hcalm (i := 0) (j := 20) (by omega) (by omega)
  refine (wformat_spec hd ((0 : Nat) : Int) ((20 : Nat) : Int)).mono ?_
  rintro _ w2 ⟨p, rfl, _, hf2, _, h3⟩
  obtain ⟨lb, X, rfl, hL2, hX⟩ := h3 hz0
  rw [hz0]
  simp only [Int.toNat_natCast] at hL2
  have hF2 : Fm (fun _ => False) w w2 := Fm.own hf1 hf2 (by rintro y (rfl | rfl | rfl) <;> assumption)
  have z1 := hf1.size
  have hXw : ∀ y, X y → w.heap.size ≤ y := fun y hy => by have := hX y hy; omega
  clear hX h3 hz0 hcalm hml hd hf2
  simp only [RS0, RS1, RS2, RS3, RS4, RS5, bne_refl0]
  refine ⟨fun vs w' => ∃ (i : Nat) (L : Lg) (X : Nat → Prop), vs = [iv L.res, iv (i : Int)] ∧ i ≤ xs.length ∧ LAt w' X lb b L ∧ L.n = 20 ∧ L.start = 1 ∧ 0 ≤ L.room ∧ (∀ y, X y → w.heap.size ≤ y) ∧ Fm (fun _ => False) w w',
    fun vs _ => (xs.length - nth vs 1).toNat, ⟨0, _, X, rfl, by omega, hL2, rfl, rfl, by decide, hXw, hF2⟩, ?_⟩
  clear hL2 hF2 hXw
  rintro _ w3 kv ivv ⟨i, L, X, hvs, hi, hL, hn, hst, hrm, hX, hF3⟩
  cases hvs
  have hbd : ∀ {L' : Lg} {w' : World} {X' : Nat → Prop}, LAt w' X' lb b L' → L'.n = 20 → L'.start = 1 → L'.room = 972 - ((L'.tail : Int) - (L'.start : Int)) - L'.res ∧ 1 ≤ L'.tail ∧ (L'.tail : Int) ≤ 8000100 ∧ 0 ≤ L'.res ∧ L'.res ≤ 4000000 := fun {L' w' X'} h h1 h2 => by
    have q1 := h.wf.st; have q2 := h.wf.res; have q3 := h.wf.small; have q4 := h.wf.bs
    have q5 := Lg.baseOf_le q1.1
    have q6 : L'.tail = L'.base + L'.kept.length := rfl
    refine ⟨by unfold Lg.room; rw [h1]; rfl, by omega, by omega, q2.1, q2.2⟩
  have hlv : lenV v = some (iv (xs.length : Int)) := hv.lenV
  by_cases hlt2 : i < xs.length
  · have hx : xs[i]? = some xs[i] := List.getElem?_eq_getElem hlt2
    have hmem := List.getElem_mem hlt2
    generalize xs[i] = x at hx hmem
    have d1 : decide ((i : Int) < (xs.length : Int)) = true := by rw [decide_eq_true_eq]; omega
    have e1 : IntKind.i64.wrap ((i : Int) + 1) = ((i + 1 : Nat) : Int) := by rw [wrap_id] <;> omega
    obtain ⟨ad, cs, hix, hc0, hc1, hc3, hR, hin⟩ := op_ld hv hx (by have := hsum.2 x hmem; omega)
    simp only [RS0, RS1, RS2, RS3, RS4, RS5, hlv, d1]
    refine (wroom_spec hL).mono ?_
    rintro _ w4 ⟨rfl, hf4⟩
    refine (wtail_spec (hL.keep0 hf4)).mono ?_
    rintro _ w5 ⟨rfl, hf5⟩
    have hL5 := (hL.keep0 hf4).keep0 hf5
    have hF5 := Fmf hF3 (Fmf hf4 hf5)
    obtain ⟨b1, b2, b3, b4, b5⟩ := hbd hL5 hn hst
    have k0 := hF5.cell' hc0 (fun e => e)
    have k1 := hF5.cell' hc1 (fun e => e)
    have k3 := cellsV_keep hc3 hF5 (fun e => e)
    simp only [RS0, RS1, RS2, RS3, RS4, RS5, hix, k1]
    refine Jn_at (fun vs w' => ∃ (L' : Lg) (X' : Nat → Prop), vs = [iv L'.res] ∧ LAt w' X' lb b L' ∧ L'.n = 20 ∧ L'.start = 1 ∧ 0 ≤ L'.room ∧ (∀ y, X' y → w.heap.size ≤ y) ∧ Fm (fun _ => False) w w') ?_ ?_
    · rintro _ w6 ⟨L', X', rfl, hL6, hn6, hst6, hrm6, hX6, hF6⟩ _
      refine ⟨_, rfl, ?_⟩
      obtain ⟨c1, c2, c3, c4, c5⟩ := hbd hL6 hn6 hst6
      refine (wroom_spec hL6).mono ?_
      rintro _ w7 ⟨rfl, hf7⟩
      have d2 : decide (L'.room < 0) = false := by rw [decide_eq_false_iff_not]; omega
      simp only [RS0, RS1, RS2, RS3, RS4, RS5, d2]
      refine (wroom_spec (hL6.keep0 hf7)).mono ?_
      rintro _ w8 ⟨rfl, hf8⟩
      have hF8 := Fmf hf7 hf8
      try simp only [RS0, RS1, RS2, RS3, RS4, RS5]
      refine (wtail_spec (hL6.keep0 hF8)).mono ?_
      rintro _ w9 ⟨rfl, hf9⟩
      have hF9 := Fmf hF8 hf9
      try simp only [RS0, RS1, RS2, RS3, RS4, RS5]
      refine (wstart_spec (hL6.keep0 hF9)).mono ?_
      rintro _ w10 ⟨rfl, hf10⟩
      have hF10 := Fmf hF9 hf10
      have w1' : IntKind.i64.wrap ((L'.tail : Int) - (L'.start : Int)) = (L'.tail : Int) - (L'.start : Int) := by rw [wrap_id]; omega
      have w2' : IntKind.i64.wrap (972 - ((L'.tail : Int) - (L'.start : Int))) = 972 - ((L'.tail : Int) - (L'.start : Int)) := by rw [wrap_id]; omega
      have w3' : IntKind.i64.wrap (972 - ((L'.tail : Int) - (L'.start : Int)) - L'.res) = L'.room := by rw [c1, wrap_id]; omega
      simp only [RS0, RS1, RS2, RS3, RS4, RS5, w1', w2', w3', bne_self_eq_false, e1]
      exact ⟨⟨i + 1, L', X', rfl, by omega, hL6.keep0 hF10, hn6, hst6, hrm6, hX6, Fmf hF6 hF10⟩, by simp only [nth_1]; omega⟩
    intro kk hkk
    simp only [RS0, RS1, RS2, RS3, RS4, RS5, hix, k0, beq_dec]
    cases q0 : decide (x.1 = 0) with
    | true =>
      simp only [RS0, RS1, RS2, RS3, RS4, RS5, hix, k3]
      refine (wappend_spec hL5 (cs := cs) (r := rcOf x.2.2.2.1) (fun w' hf => hR.keep (Fm.own hF5 hf hX))).mono ?_
      rintro _ w6 ⟨rfl, X', hL6, hX6, hf6⟩
      obtain ⟨a1, a2, a3, a4, a5, a6⟩ := app_room (L := L) (rcOf x.2.2.2.1) hR.lsns
      generalize L.append (rcOf x.2.2.2.1) = A at hL6 a1 a2 a3 a4 a5 a6
      have hX6w : ∀ y, X' y → w.heap.size ≤ y := fun y hy => by
        rcases hX6 y hy with e | e
        · exact hX y e
        · have := hF5.size; omega
      have hF6 : Fm (fun _ => False) w w6 := Fm.own hF5 hf6 hX
      have hn6 : A.1.n = 20 := by rw [a1]; exact hn
      have hst6 : A.1.start = 1 := by rw [a2]; exact hst
      obtain ⟨c1, c2, c3, c4, c5⟩ := hbd hL6 hn6 hst6
      have w1' : IntKind.i64.wrap ((A.1.tail : Int) - (L.tail : Int)) = (A.1.tail : Int) - (L.tail : Int) := by rw [wrap_id]; omega
      have w2' : IntKind.i64.wrap (L.room - ((A.1.tail : Int) - (L.tail : Int))) = A.1.room := by rw [a4, wrap_id]; omega
      simp only [RS0, RS1, RS2, RS3, RS4, RS5, bne_dec]
      cases hz6 : decide (A.2.2 = 0) with
      | true =>
        simp only [RS0, RS1, RS2, RS3, RS4, RS5, Bool.not_true]
        refine (wroom_spec hL6).mono ?_
        rintro _ w7 ⟨rfl, hf7⟩
        try simp only [RS0, RS1, RS2, RS3, RS4, RS5]
        refine (wtail_spec (hL6.keep0 hf7)).mono ?_
        rintro _ w8 ⟨rfl, hf8⟩
        have hF8 := Fmf hf7 hf8
        simp only [RS0, RS1, RS2, RS3, RS4, RS5, w1', w2', bne_self_eq_false]
        exact hkk _ _ ⟨A.1, X', by rw [a3], hL6.keep0 hF8, hn6, hst6, a5 hrm, hX6w, Fmf hF6 hF8⟩
      | false =>
        rw [decide_eq_false_iff_not] at hz6
        have ht6 := a6 hz6
        simp only [RS0, RS1, RS2, RS3, RS4, RS5, Bool.not_false]
        refine (wtail_spec hL6).mono ?_
        rintro _ w7 ⟨rfl, hf7⟩
        have dt : ((A.1.tail : Int) != (L.tail : Int)) = false := by rw [ht6]; simp
        simp only [RS0, RS1, RS2, RS3, RS4, RS5, dt]
        refine (wroom_spec (hL6.keep0 hf7)).mono ?_
        rintro _ w8 ⟨rfl, hf8⟩
        have hF8 := Fmf hf7 hf8
        try simp only [RS0, RS1, RS2, RS3, RS4, RS5]
        refine (wtail_spec (hL6.keep0 hF8)).mono ?_
        rintro _ w9 ⟨rfl, hf9⟩
        have hF9 := Fmf hF8 hf9
        simp only [RS0, RS1, RS2, RS3, RS4, RS5, w1', w2', bne_self_eq_false]
        exact hkk _ _ ⟨A.1, X', by rw [a3], hL6.keep0 hF9, hn6, hst6, a5 hrm, hX6w, Fmf hF6 hF9⟩
    | false =>
    simp only [RS0, RS1, RS2, RS3, RS4, RS5]
    cases q1 : decide (x.1 = 1) with
    | true =>
      simp only [RS0, RS1, RS2, RS3, RS4, RS5]
      refine (wreserve_spec hL5 x.2.1).mono ?_
      rintro _ w6 ⟨rfl, hL6, hf6⟩
      obtain ⟨a1, a2, a3, a4, a5, a6⟩ := res_room L x.2.1
      generalize L.reserve x.2.1 = A at hL6 a1 a2 a3 a4 a5 a6
      have hF6 : Fm (fun _ => False) w w6 := Fm.own hF5 hf6 (by rintro y rfl; exact hX _ hL5.lb)
      have hn6 : A.1.n = 20 := by rw [a2]; exact hn
      have hst6 : A.1.start = 1 := by rw [a3]; exact hst
      try simp only [RS0, RS1, RS2, RS3, RS4, RS5]
      cases p1 : decide (0 ≤ x.2.1) with
      | false =>
        rw [p1, Bool.false_and] at a1
        have hne : ¬ A.2 = 0 := by rw [← decide_eq_false_iff_not]; exact a1
        rw [if_neg hne] at a5
        simp only [RS0, RS1, RS2, RS3, RS4, RS5, beq_dec, a1, bne_self_eq_false]
        exact hkk _ _ ⟨A.1, X, by rw [a5, Int.add_zero], hL6, hn6, hst6, a6 hrm, hX, hF6⟩
      | true =>
        rw [p1, Bool.true_and] at a1
        try simp only [RS0, RS1, RS2, RS3, RS4, RS5]
        cases p2 : decide (x.2.1 ≤ L.room) with
        | false =>
          rw [p2] at a1
          have hne : ¬ A.2 = 0 := by rw [← decide_eq_false_iff_not]; exact a1
          rw [if_neg hne] at a5
          simp only [RS0, RS1, RS2, RS3, RS4, RS5, beq_dec, a1, bne_self_eq_false]
          exact hkk _ _ ⟨A.1, X, by rw [a5, Int.add_zero], hL6, hn6, hst6, a6 hrm, hX, hF6⟩
        | true =>
          rw [p2] at a1
          have heq : A.2 = 0 := by rw [← decide_eq_true_eq (p := A.2 = 0)]; exact a1
          rw [if_pos heq] at a5
          rw [decide_eq_true_eq] at p1 p2
          have e2 : IntKind.i64.wrap (L.res + x.2.1) = A.1.res := by rw [a5, wrap_id]; omega
          simp only [RS0, RS1, RS2, RS3, RS4, RS5, beq_dec, a1, bne_self_eq_false, e2]
          exact hkk _ _ ⟨A.1, X, rfl, hL6, hn6, hst6, a6 hrm, hX, hF6⟩
    | false =>
    simp only [RS0, RS1, RS2, RS3, RS4, RS5]
    cases q2 : decide (x.1 = 2) with
    | true =>
      simp only [RS0, RS1, RS2, RS3, RS4, RS5]
      refine (wrelease_spec hL5 x.2.1).mono ?_
      rintro _ w6 ⟨rfl, hL6, hf6⟩
      obtain ⟨a1, a2, a3, a4, a5, a6⟩ := rel_room (L := L) x.2.1 b4
      generalize L.release x.2.1 = A at hL6 a1 a2 a3 a4 a5 a6
      have hF6 : Fm (fun _ => False) w w6 := Fm.own hF5 hf6 (by rintro y rfl; exact hX _ hL5.lb)
      have hn6 : A.1.n = 20 := by rw [a2]; exact hn
      have hst6 : A.1.start = 1 := by rw [a3]; exact hst
      try simp only [RS0, RS1, RS2, RS3, RS4, RS5]
      cases p1 : decide (0 ≤ x.2.1) with
      | false =>
        rw [p1, Bool.false_and] at a1
        have hne : ¬ A.2 = 0 := by rw [← decide_eq_false_iff_not]; exact a1
        rw [if_neg hne] at a5
        simp only [RS0, RS1, RS2, RS3, RS4, RS5, beq_dec, a1, bne_self_eq_false]
        exact hkk _ _ ⟨A.1, X, by rw [a5, Int.sub_zero], hL6, hn6, hst6, a6 hrm, hX, hF6⟩
      | true =>
        rw [p1, Bool.true_and] at a1
        try simp only [RS0, RS1, RS2, RS3, RS4, RS5]
        cases p2 : decide (x.2.1 ≤ L.res) with
        | false =>
          rw [p2] at a1
          have hne : ¬ A.2 = 0 := by rw [← decide_eq_false_iff_not]; exact a1
          rw [if_neg hne] at a5
          simp only [RS0, RS1, RS2, RS3, RS4, RS5, beq_dec, a1, bne_self_eq_false]
          exact hkk _ _ ⟨A.1, X, by rw [a5, Int.sub_zero], hL6, hn6, hst6, a6 hrm, hX, hF6⟩
        | true =>
          rw [p2] at a1
          have heq : A.2 = 0 := by rw [← decide_eq_true_eq (p := A.2 = 0)]; exact a1
          rw [if_pos heq] at a5
          rw [decide_eq_true_eq] at p1 p2
          have e2 : IntKind.i64.wrap (L.res - x.2.1) = A.1.res := by rw [a5, wrap_id]; omega
          simp only [RS0, RS1, RS2, RS3, RS4, RS5, beq_dec, a1, bne_self_eq_false, e2]
          exact hkk _ _ ⟨A.1, X, rfl, hL6, hn6, hst6, a6 hrm, hX, hF6⟩
    | false =>
    simp only [RS0, RS1, RS2, RS3, RS4, RS5]
    exact hkk _ _ ⟨L, X, rfl, hL5, hn, hst, hrm, hX, hF5⟩
  · have d1 : decide ((i : Int) < (xs.length : Int)) = false := by rw [decide_eq_false_iff_not]; omega
    simp only [RS0, RS1, RS2, RS3, RS4, RS5, hlv, d1]
    refine (waw_spec w3).mono ?_
    rintro _ w4 ⟨rfl, hf4⟩
    exact ⟨rfl, Fmf hF3 hf4⟩
end Go.Proofs.YthbngnlmgplijaaGreatDoor

namespace Go.Proofs.YthbngnlmgplijaaGreatDoor
open Go.Al Go.Proofs
set_option linter.unusedVariables false
set_option linter.unusedSimpArgs false
set_option linter.unusedSectionVars false
set_option maxRecDepth 100000

/-- A number's place in a ring. -/
def modN (n : Nat) (a : Int) : Nat := ((a.tmod n + n).tmod n).toNat
theorem rem_i64 (d : TypeDesc) {a b : Int} (h0 : 0 < b) (h1 : b ≤ 9223372036854775807) : binV d .rem (iv a) (iv b) = some (iv (a.tmod b)) := by
  have h2 := Int.lt_tmod_of_pos a h0
  have h3 := Int.tmod_lt_of_pos a h0
  rw [binV_rem, if_neg (by omega)]
theorem modN_lt {n : Nat} (h : 1 ≤ n) (a : Int) : modN n a < n ∧ (a.tmod n + n).tmod n = (modN n a : Int) ∧ -(n : Int) < a.tmod n ∧ a.tmod n < n := by
  unfold modN
  have h0 : (0 : Int) < (n : Int) := by omega
  have h1 := Int.lt_tmod_of_pos a h0
  have h2 := Int.tmod_lt_of_pos a h0
  have h3 := Int.tmod_lt_of_pos (a.tmod n + n) h0
  have h4 : 0 ≤ (a.tmod n + n).tmod n := Int.tmod_nonneg _ (by omega)
  omega
theorem mod3 (d : TypeDesc) {n : Nat} (h : 1 ≤ n) (hn : n ≤ 4611686018427387904) (a : Int) : binV d .rem (iv a) (iv (n : Int)) = some (iv (a.tmod n)) ∧ IntKind.i64.wrap (a.tmod n + n) = a.tmod n + n ∧ binV d .rem (iv (a.tmod n + n)) (iv (n : Int)) = some (iv (modN n a : Int)) ∧ modN n a < n := by
  obtain ⟨h1, h2, h3, h4⟩ := modN_lt h a
  refine ⟨rem_i64 d (by omega) (by omega), by rw [wrap_id]; omega, ?_, h1⟩
  rw [rem_i64 d (by omega) (by omega), h2]
theorem z28 (w : World) : (zeroValue 28).run Tryz.prog w = .ok (.agg (rcs rc0 nl nl nl nl nl)) w := by kernel_rfl
theorem retG {w : World} {g : Nat} {cs : Array Value} {e : Int} (h : w.heap[g]? = some (.cells cs 28)) (hn : cs.size = 16) {k : KV} (hk : k (.tuple #[.agg cs, iv e]) w) :
    RetO (resL Tryz.prog (fun j => bif Nat.beq j 4 then pv g else bif Nat.beq j 5 then iv e else undef) w [(ResultVar.cell 4 28), (ResultVar.tmp 5)]) w k := by
  have h3 : resV Tryz.prog (fun j => bif Nat.beq j 4 then pv g else bif Nat.beq j 5 then iv e else undef) w (.tmp 5) = some (iv e) := rfl
  simp only [resL, resV_blk (f := fun j => bif Nat.beq j 4 then pv g else bif Nat.beq j 5 then iv e else undef) (a := 4) rfl agg52 size52 h hn, h3, RetO, RetV]
  exact hk
theorem LIn.get {w : World} {X P : Nat → Prop} {lb db mb : Nat} {kv : Value} {M : List (Int × Array Value)} {L : Lg} (h : LIn w X P lb db mb kv M L) (k : Int) :
    (getD L.recs k = none ∧ getD M k = none) ∨ ∃ r cs, getD L.recs k = some r ∧ getD M k = some cs ∧ (k, r) ∈ L.recs ∧ Held w P cs r := by
  have hn : (L.recs.map (·.1)).Nodup := by rw [← h.keys]; exact h.mp.keys
  cases hM : getD M k with
  | none =>
    left
    refine ⟨?_, rfl⟩
    rw [getD_none] at hM ⊢
    rw [← h.keys]; exact hM
  | some cs =>
    right
    obtain ⟨r, h1, h2⟩ := h.rec_ k cs ((getD_some h.mp.keys).1 hM)
    exact ⟨r, cs, (getD_some hn).2 h1, rfl, h1, h2⟩
set_option maxHeartbeats 2000000 in
theorem wget_spec {w : World} {X : Nat → Prop} {lb db : Nat} {L : Lg} (h : LAt w X lb db L) (k : Int) : Cl Tryz.prog 29 [pv lb, iv k] w fun v w' => Fm (fun _ => False) w w' ∧
    ((getD L.recs k = none ∧ v = .tuple #[.agg (rcs rc0 nl nl nl nl nl), iv 51]) ∨ ∃ r cs, getD L.recs k = some r ∧ v = .tuple #[.agg cs, iv 0] ∧ RcAs w' cs r) := by
  obtain ⟨P, mb, kv, M, hi⟩ := h.ex
  refine c29 ?_; unfold T29
  refine New_any ?_
  intro x1 w1 hx1 hs1 hw1 hf1
  have hi1 := hi.keep0 hf1
  simp only [RS0, RS1, RS2, RS3, RS4, RS5, hi1.c8]
  refine RunS_ok (lookup_run K130 hi1.mp k true (z28 _)) ?_
  have one0 := rcs_one (r := rc0) (vs := nl) (vm := nl) (vi := nl) (vp := nl) (vt := nl) rfl rfl rfl rfl rfl
  rcases hi1.get k with ⟨g1, g2⟩ | ⟨r, cs, g1, g2, g3, g4⟩
  · rw [g2]
    simp only [okV, cond_true]
    try simp only [RS0, RS1, RS2, RS3, RS4, RS5]
    refine New_any ?_
    intro x2 w2 hx2 hs2 hw2 hf2
    refine St_all hw2 rfl rfl one0 ?_
    intro w3 hw3 hs3 hf3
    try simp only [RS0, RS1, RS2, RS3, RS4, RS5]
    refine RunS_ok (bld52z _) ?_
    have hw3' := hf3.heap (hf2.heap hw1 (fun e => e)) (show ¬ x1 = x2 by omega)
    refine St_all hw3' rfl rfl one0 ?_
    intro w4 hw4 hs4 hf4
    exact retG hw4 rfl ⟨Fm.own (Fm.own (Fmf hf1 hf2) hf3 (by rintro y rfl; omega)) hf4 (by rintro y rfl; omega), .inl ⟨g1, rfl⟩⟩
  · rw [g2]
    simp only [okV, cond_true]
    have hsz := g4.now.size
    have hone := g4.now.one
    obtain ⟨q1, q2, _⟩ := h.wf.ok _ g3
    try simp only [RS0, RS1, RS2, RS3, RS4, RS5]
    refine New_any ?_
    intro x2 w2 hx2 hs2 hw2 hf2
    refine St_all hw2 rfl hsz hone ?_
    intro w3 hw3 hs3 hf3
    have hxP : ∀ y, P y → ¬ y = x2 := by
      rintro y hy rfl
      have := hi1.lt _ (hi1.xs.2.2.2 _ hy)
      omega
    have g5 := (g4.keep hf2 (fun _ _ e => e)).keep hf3 hxP
    simp only [RS0, RS1, RS2, RS3, RS4, RS5, cellsV_blk hw3 hsz]
    refine (own_spec g5.now q2).mono ?_
    rintro _ w4 ⟨cs', rfl, hheld, hf4⟩
    have hw4 := hf4.heap (hf3.heap (hf2.heap hw1 (fun e => e)) (show ¬ x1 = x2 by omega)) (fun e => e)
    have hsz' := hheld.now.size
    refine St_all hw4 rfl hsz' hheld.now.one ?_
    intro w5 hw5 hs5 hf5
    have z2 := hf2.size; have z3 := hf3.size
    refine retG hw5 hsz' ⟨Fm.own (Fmf (Fm.own (Fmf hf1 hf2) hf3 (by rintro y rfl; omega)) hf4) hf5 (by rintro y rfl; omega), .inr ⟨r, cs', g1, rfl, (hheld.keep hf5 (by rintro y hy rfl; omega)).now⟩⟩

/-! ### Giving up -/
theorem len_erase {γ : Type} {l : List γ} {i : Nat} {p : γ} (hi : l[i]? = some p) : (l.eraseIdx i).length + 1 = l.length := by
  have h := (List.getElem?_eq_some_iff.1 hi).1
  rw [List.length_eraseIdx, if_pos h]; omega
theorem delD_filter (M : List (Int × Array Value)) (hn : (M.map (·.1)).Nodup) (q : Int × Array Value → Bool) (a : Int) : delD (M.filter q) a = M.filter (fun x => q x && !decide (x.1 = a)) := by
  induction M with
  | nil => rfl
  | cons p l ih =>
    rw [List.map_cons, List.nodup_cons] at hn
    have ih := ih hn.2
    rw [List.filter_cons, List.filter_cons]
    by_cases hq : q p = true
    · rw [if_pos hq, delD]
      by_cases ha : p.1 = a
      · have hno : ∀ x ∈ l, ¬ x.1 = a := fun x hx e => hn.1 (by rw [ha, ← e]; exact List.mem_map.2 ⟨x, hx, rfl⟩)
        rw [if_pos ha, if_neg (by simp [ha])]
        exact (List.filter_congr (fun x hx => by simp [hno x hx])).symm
      · rw [if_neg ha, if_pos (by simp [hq, ha]), ih]
    · rw [if_neg hq, if_neg (by simp [hq]), ih]
theorem keys_filter {α β : Type} (M : List (Int × α)) (R : List (Int × β)) (h : M.map (·.1) = R.map (·.1)) (b : Int) : (M.filter (fun p => decide (b ≤ p.1))).map (·.1) = (R.filter (fun p => decide (b ≤ p.1))).map (·.1) := by
  have e1 : (M.filter (fun p => decide (b ≤ p.1))).map (·.1) = (M.map (·.1)).filter (fun k => decide (b ≤ k)) := by rw [List.filter_map]; rfl
  have e2 : (R.filter (fun p => decide (b ≤ p.1))).map (·.1) = (R.map (·.1)).filter (fun k => decide (b ≤ k)) := by rw [List.filter_map]; rfl
  rw [e1, e2, h]
theorem bs123e (w : World) : (Instr.buildSlice 123 0 #[]).run Tryz.prog w = .ok (.slice (some ⟨w.heap.size, 0, none⟩) 0 0) (w.alloc (.cells #[] 5)) := by kernel_rfl
theorem nodup_erase {γ : Type} {l : List γ} (h : l.Nodup) (i : Nat) : (l.eraseIdx i).Nodup := h.sublist (List.eraseIdx_sublist _ _)
theorem LIn.look {w : World} {X P : Nat → Prop} {lb db mb : Nat} {kv : Value} {M : List (Int × Array Value)} {L : Lg} (h : LIn w X P lb db mb kv M L) (b : Int) :
    ∃ cs, (Instr.lookup 130 (.map (some mb)) (iv b) true).run Tryz.prog w = .ok (.tuple #[.agg cs, .bool (!(getD L.recs b).isNone)]) w ∧ cs.size = 16 ∧ ∀ u ∈ cs.toList, u.oneCell' = true := by
  have hl := lookup_run K130 h.mp b true (z28 w)
  rcases h.get b with ⟨g1, g2⟩ | ⟨r, cs, g1, g2, g3, g4⟩
  · rw [g2] at hl
    exact ⟨rcs rc0 nl nl nl nl nl, by rw [g1]; exact hl, rfl, rcs_one rfl rfl rfl rfl rfl⟩
  · rw [g2] at hl
    exact ⟨cs, by rw [g1]; exact hl, g4.now.size, g4.now.one⟩
set_option maxHeartbeats 8000000 in
theorem wrecycle_spec {w : World} {X : Nat → Prop} {lb db : Nat} {L : Lg} (h : LAt w X lb db L) (b : Int) (hb63 : -9223372036854775808 ≤ b ∧ b ≤ 9223372036854775807) :
    Cl Tryz.prog 28 [pv lb, iv b] w fun v w' => v = iv (L.recycle b).2 ∧ ∃ X', LAt w' X' lb db (L.recycle b).1 ∧ (∀ y, X' y → X y ∨ w.heap.size ≤ y) ∧ Fm X w w' := by
  have hwf := h.wf.recycle b
  have h1 := h.wf.st; have h2 := h.wf.low; have h4 := h.wf.bs
  have hbo := Lg.baseOf_le h1.1
  rw [← h4] at hbo
  obtain ⟨P, mb, kv, M, hi⟩ := h.ex
  have one0 := rcs_one (r := rc0) (vs := nl) (vm := nl) (vi := nl) (vp := nl) (vt := nl) rfl rfl rfl rfl rfl
  have hE : L.recycle b = bif decide (b < (L.start : Int)) || (decide ((L.last : Int) < b) || ((getD L.recs b).isNone && !decide (b = (L.tail : Int)))) then (L, 51)
    else ({ L with start := b.toNat, recs := L.recs.filter (fun p => decide (b ≤ p.1)), kept := L.kept.drop (Lg.baseOf b.toNat - L.base), base := Lg.baseOf b.toNat }, 0) := rfl
  refine c28 ?_; unfold T28
  simp only [RS0, RS1, RS2, RS3, RS4, RS5, hi.c8]
  obtain ⟨cs0, hlk1, hlk2, hlk3⟩ := hi.look b
  refine RunS_ok hlk1 ?_
  simp only [RS0, RS1, RS2, RS3, RS4, RS5]
  refine New_any ?_
  intro x1 w1 hx1 hs1 hw1 hf1
  refine St_all hw1 rfl hlk2 hlk3 ?_
  intro w2 hw2 hs2 hf2
  have hF2 : Fm (fun _ => False) w w2 := Fm.own hf1 hf2 (by rintro y rfl; omega)
  have hi2 := hi.keep0 hF2
  have hL2 := h.keep0 hF2
  have same : ∀ {w' : World}, Fm (fun _ => False) w w' → ∃ X', LAt w' X' lb db L ∧ (∀ y, X' y → X y ∨ w.heap.size ≤ y) ∧ Fm X w w' := fun hf => ⟨X, h.keep0 hf, fun y hy => .inl hy, hf.mono (fun _ _ e => e.elim)⟩
  cases q1 : decide (b < (L.start : Int)) with
  | true =>
    rw [q1, Bool.true_or, cond_true] at hE
    rw [hE]
    simp only [RS0, RS1, RS2, RS3, RS4, RS5, hi2.c5, q1]
    exact ⟨(by trivial), same hF2⟩
  | false =>
  cases q2 : decide ((L.last : Int) < b) with
  | true =>
    rw [q1, q2, Bool.true_or, Bool.false_or, cond_true] at hE
    rw [hE]
    simp only [RS0, RS1, RS2, RS3, RS4, RS5, hi2.c5, hi2.c6, q1, q2]
    exact ⟨(by trivial), same hF2⟩
  | false =>
  rw [q1, q2, Bool.false_or, Bool.false_or] at hE
  rw [decide_eq_false_iff_not] at q1 q2
  obtain ⟨bn, rfl⟩ : ∃ bn : Nat, b = (bn : Int) := ⟨b.toNat, by omega⟩
  have hbn := Lg.baseOf_le (b := bn) (by omega)
  have hbm : Lg.baseOf L.start ≤ Lg.baseOf bn := by unfold Lg.baseOf; omega
  rw [← h4] at hbm
  have htl : L.tail = L.base + L.kept.length := rfl
  have hbe : Lg.baseOf bn = (bn - 1) / 54 * 54 + 1 := rfl
  simp only [Int.toNat_natCast] at hE
  have q1' : decide ((bn : Int) < (L.start : Int)) = false := by rw [decide_eq_false_iff_not]; exact q1
  have q2' : decide ((L.last : Int) < (bn : Int)) = false := by rw [decide_eq_false_iff_not]; exact q2
  cases q3 : (getD L.recs (bn : Int)).isNone with
  | false =>
    rw [q3, Bool.false_and, cond_false] at hE
    rw [hE] at hwf ⊢
    simp only at hwf ⊢
    simp only [RS0, RS1, RS2, RS3, RS4, RS5, hi2.c5, hi2.c6, q1', q2', q3]
    have hiW := hi2; have hFW := hF2
    refine St_blk hiW.st (by show 5 < 9; decide) rfl ?_
    intro w4 hw4 hs4 hf4
    have hi4 := hiW.upd (L' := { L with start := bn }) hw4 hf4 rfl rfl
    simp only [RS0, RS1, RS2, RS3, RS4, RS5, hi4.c8]
    obtain ⟨w5, hr5, hR, hf5, hs5⟩ := range_run Tryz.underlying130 hi4.mp
    refine RunS_ok hr5 ?_
    have hi5 := hi4.keep0 hf5
    have hmx := hi.xs.2.1
    have hF5 : Fm X w w5 := Fm.step (Fm.step (hFW.mono (fun _ _ e => e.elim)) hf4 (by rintro y rfl; exact .inl hi.xs.1)) hf5 (fun _ e => e.elim)
    have hkn : (M.map (·.1)).Nodup := hi.mp.keys
    have hfr : w.heap.size ≤ w4.heap.size := Nat.le_trans hFW.size hf4.size
    refine ⟨fun vs w' => ∃ (q : Int × Array Value → Bool) (left : List (Int × Array Value)), vs = [] ∧ RangeAt w' w4.heap.size mb iv Value.agg (M.filter q) left ∧ (left.map (·.1)).Nodup ∧ (∀ p ∈ M, q p = true ↔ ((bn : Int) ≤ p.1 ∨ p.1 ∈ left.map (·.1))) ∧ Fm (fun y => y = mb ∨ y = w4.heap.size) w5 w', fun _ w' => Go.Al.rl w' w4.heap.size mb, ⟨fun _ => true, M, rfl, by rw [List.filter_eq_self.2 (fun _ _ => rfl)]; exact hR, hkn, fun p hp => ⟨fun _ => .inr (List.mem_map.2 ⟨p, hp, rfl⟩), fun _ => rfl⟩, Fm.refl _ _⟩, ?_⟩
    rintro g w6 ⟨q, left, -, hR6, hln, hq, hf6⟩
    have hnm5 : ∀ y, X y → ¬ y = w4.heap.size := by
      rintro y hy rfl
      have := hi4.lt _ hy
      omega
    have hst6 := hf6.heap hi5.st (by rintro (e | e); exact hi.nm e.symm; exact hnm5 _ hi.xs.1 e)
    have c8 : w6.cell? ⟨lb, 8, none⟩ = some (.map (some mb)) := by rw [cell_at hst6]; rfl
    rcases next_run (P := Tryz.prog) hR6 0 with ⟨rfl, hrun⟩ | ⟨i, p, w7, hp, hrun, hR', hf', hs', hent⟩
    · refine RunS_ok hrun ?_
      simp only [RS0, RS1, RS2, RS3, RS4, RS5]
      refine (wof_spec w6 (n := bn) (by omega) (by omega)).mono ?_
      rintro _ w6 ⟨rfl, rfl⟩
      refine (wfirst_spec w6 (k := (bn - 1) / 54) (by omega)).mono ?_
      rintro _ w6 ⟨rfl, rfl⟩
      have hkp6 : KpAt w6 5 kv L.kept := hi5.kp.keep hf6 (by
        rintro y hy (e | e)
        · exact hi.km (by rw [← e]; exact hy)
        · exact hnm5 _ (hi.xs.2.2.1 y hy) e)
      have c4 : w6.cell? ⟨lb, 4, none⟩ = some kv := by rw [cell_at hst6]; rfl
      have c3 : w6.cell? ⟨lb, 3, none⟩ = some (iv (L.base : Int)) := by rw [cell_at hst6]; rfl
      have hd6 := Fm.drew (fun _ => False) w6
      have ed : IntKind.i64.wrap (((((bn - 1) / 54 * 54 + 1 : Nat)) : Int) - (L.base : Int)) = (((bn - 1) / 54 * 54 + 1 - L.base : Nat) : Int) := by rw [wrap_id] <;> omega
      have hsm := h.wf.small
      obtain ⟨sv', hsl, hca, _⟩ := hkp6.cells.lo (i := (bn - 1) / 54 * 54 + 1 - L.base) (by omega) .i64
      refine ⟨fun w' => Fm (fun _ => False) w6 w', hd6, ?_⟩
      simp only [RS0, RS1, RS2, RS3, RS4, RS5]
      refine ⟨kv, fun w' h' => ?_, ?_⟩
      · have := h'.cell' c4 (fun e => e)
        simp only [RS0, RS1, RS2, RS3, RS4, RS5, this] <;> trivial
      refine ⟨iv (L.base : Int), fun w' h' => ?_, ?_⟩
      · have := h'.cell' c3 (fun e => e)
        simp only [RS0, RS1, RS2, RS3, RS4, RS5, this] <;> trivial
      simp only [RS0, RS1, RS2, RS3, RS4, RS5, ed, hsl]
      refine RunS_ok (bs123e _) ?_
      have hal := Fm.alloc (fun _ => False) w6.drew (.cells #[] 5)
      have hF9 := Fmf hd6 hal
      have how : (w6.drew.alloc (.cells #[] 5)).ownsRow w6.heap.size 5 1 (.slice (some ⟨w6.heap.size, 0, none⟩) 0 0) 0 [] := own_new (l := []) (n := 0) rfl (Nat.le_refl _) (Nat.zero_le _)
      refine ⟨hF9, ?_⟩
      have hz9 : w6.heap.size ≤ (w6.drew.alloc (.cells #[] 5)).heap.size := hF9.size
      obtain ⟨v', w10, hr10, ho10, hf10⟩ := append_srcO E38w (by omega) how (hca.keep hF9 (fun _ _ e => e)) (fun u hu => bc_one _ u (List.mem_of_mem_drop hu)) 123 (by unfold maxLen; omega) (by omega) hz9
      refine RunS_ok hr10 ?_
      rw [Nat.zero_add, List.nil_append, Nat.mul_one, bc_drop] at ho10
      have hkp10 : KpAt w10 5 v' (L.kept.drop ((bn - 1) / 54 * 54 + 1 - L.base)) := KpAt.of_own ho10
      have hlt10 := own_lt ho10
      have hF10 : Fm (fun _ => False) w6 w10 := Fm.own hF9 hf10 (by intro y hy; cases hy; exact Nat.le_refl _)
      have hst10 := hF10.heap hst6 (fun e => e)
      refine St_blk hst10 (by show 4 < 9; decide) hkp10.one ?_
      intro w11 hw11 hs11 hf11
      refine St_blk hw11 (by show 3 < 9; decide) rfl ?_
      intro w12 hw12 hs12 hf12
      have hFq : M.filter q = M.filter (fun p => decide ((bn : Int) ≤ p.1)) := List.filter_congr (fun p hp => by
        have hqp := hq p hp
        cases hqq : q p with
        | true => exact (decide_eq_true ((hqp.1 hqq).resolve_right (by simp))).symm
        | false => exact (decide_eq_false (fun e => by rw [hqp.2 (.inl e)] at hqq; cases hqq)).symm)
      have hmp6 := hR6.map (hkn.sublist (List.Sublist.map _ List.filter_sublist))
      rw [hFq] at hmp6
      have hlbw := hi.lt _ hi.xs.1
      have hz6 : w.heap.size ≤ w6.heap.size := Nat.le_trans hF5.size hf6.size
      have hf112 : Fm (· = lb) w10 w12 := hf11.trans hf12 (fun _ _ e => e) (fun _ _ e => e)
      have hF12 : Fm (· = lb) w6 w12 := hF10.trans hf112 (fun _ _ e => e.elim) (fun _ _ e => e)
      have a1 : Fm (fun y => y = lb ∨ y = mb ∨ w.heap.size ≤ y) w w4 := hFW.trans hf4 (fun _ _ e => e.elim) (fun _ _ e => .inl e)
      have a2 : Fm (fun y => y = lb ∨ y = mb ∨ w.heap.size ≤ y) w w5 := a1.trans hf5 (fun _ _ e => e) (fun _ _ e => e.elim)
      have a3 : Fm (fun y => y = lb ∨ y = mb ∨ w.heap.size ≤ y) w w6 := a2.trans hf6 (fun _ _ e => e) (fun x hx e => by
        rcases e with e | e
        · exact .inr (.inl e)
        · exact .inr (.inr (by omega)))
      have a4 : Fm (fun y => y = lb ∨ y = mb ∨ w.heap.size ≤ y) w w12 := a3.trans hF12 (fun _ _ e => e) (fun _ _ e => .inl e)
      refine ⟨(by trivial), fun y => X y ∨ v'.ownBlock = some y, ⟨hwf, P, mb, v', M.filter (fun p => decide ((bn : Int) ≤ p.1)), ⟨hw12, hkp10.keep hf112 (fun y hy e => by have := (hlt10 y hy).1; omega), hmp6.keep hF12 hi.nm, keys_filter M L.recs hi.keys _, fun k cs hm => ?_, ⟨.inl hi.xs.1, .inl hi.xs.2.1, fun y hy => .inr hy, fun y hy => .inl (hi.xs.2.2.2 y hy)⟩, ⟨hi.ps.1, hi.ps.2.1, fun y hy hP => ?_⟩, fun y hy => ?_⟩⟩, fun y hy => ?_, Fm.step (Fm.refl X w) a4 (fun y hy => ?_)⟩
      · obtain ⟨hm1, hm2⟩ := List.mem_filter.1 hm
        obtain ⟨r, g1, g2⟩ := hi.rec_ k cs hm1
        refine ⟨r, List.mem_filter.2 ⟨g1, hm2⟩, g2.keep a4 (fun y hy e => ?_)⟩
        have := hi.lt _ (hi.xs.2.2.2 y hy)
        rcases e with e | e | e
        · exact hi.ps.1 (by rw [← e]; exact hy)
        · exact hi.ps.2.1 (by rw [← e]; exact hy)
        · omega
      · have := hi.lt _ (hi.xs.2.2.2 y hP)
        have := (hlt10 y hy).1
        omega
      · have e1 := hf112.size
        rcases hy with hy | hy
        · have := hi.lt y hy
          have := hF12.size
          omega
        · have := (hlt10 y hy).2
          omega
      · rcases hy with hy | hy
        · exact .inl hy
        · have := (hlt10 y hy).1
          exact .inr (by omega)
      · rcases hy with rfl | rfl | hy
        · exact .inl hi.xs.1
        · exact .inl hi.xs.2.1
        · exact .inr hy
    · refine RunS_ok hrun ?_
      simp only [RS0, RS1, RS2, RS3, RS4, RS5]
      refine RunS_ok hent ?_
      have hlen : Go.Al.rl w7 w4.heap.size mb < Go.Al.rl w6 w4.heap.size mb := by
        rw [hR6.len, hR'.len]; have := len_erase hp; omega
      have hln' : ((left.eraseIdx i).map (·.1)).Nodup := by rw [← eraseIdx_mp]; exact nodup_erase hln i
      have hf7 : Fm (fun y => y = mb ∨ y = w4.heap.size) w5 w7 := hf6.trans (hf'.mono (fun y _ e => .inr e)) (fun _ _ e => e) (fun _ _ e => e)
      have hst7 := hf'.heap hst6 (by intro e; exact hnm5 _ hi.xs.1 e)
      have c8' : w7.cell? ⟨lb, 8, none⟩ = some (.map (some mb)) := by rw [cell_at hst7]; rfl
      have hmem : ∀ k, k ∈ left.map (·.1) ↔ k = p.1 ∨ k ∈ (left.eraseIdx i).map (·.1) := by
        intro k
        constructor
        · intro hk
          obtain ⟨x, hx, rfl⟩ := List.mem_map.1 hk
          rcases mem_erase_or hp hx with rfl | hx
          · exact .inl rfl
          · exact .inr (List.mem_map.2 ⟨x, hx, rfl⟩)
        · rintro (rfl | hk)
          · exact List.mem_map.2 ⟨p, List.mem_of_getElem? hp, rfl⟩
          · obtain ⟨x, hx, rfl⟩ := List.mem_map.1 hk
            exact List.mem_map.2 ⟨x, List.mem_of_mem_eraseIdx hx, rfl⟩
      have hnot : p.1 ∉ (left.eraseIdx i).map (·.1) := by
        intro hk
        obtain ⟨j, hj⟩ := List.getElem?_of_mem hk
        rw [← eraseIdx_mp, List.getElem?_eraseIdx] at hj
        have hpi : (left.map (·.1))[i]? = some p.1 := by rw [List.getElem?_map, hp]; rfl
        split at hj
        · have := (List.getElem?_inj (List.getElem?_eq_some_iff.1 hj).1 hln).1 (hj.trans hpi.symm)
          omega
        · have := (List.getElem?_inj (List.getElem?_eq_some_iff.1 hj).1 hln).1 (hj.trans hpi.symm)
          omega
      cases q3 : decide (p.1 < (bn : Int)) with
      | false =>
        rw [decide_eq_false_iff_not] at q3
        have q3' : decide (p.1 < (bn : Int)) = false := by rw [decide_eq_false_iff_not]; exact q3
        simp only [RS0, RS1, RS2, RS3, RS4, RS5, q3']
        refine ⟨⟨q, _, trivial, hR', hln', fun x hx => ?_, hf7⟩, hlen⟩
        rw [hq x hx, hmem]
        constructor
        · rintro (h1 | h1 | h1)
          · exact .inl h1
          · exact .inl (by omega)
          · exact .inr h1
        · rintro (h1 | h1)
          · exact .inl h1
          · exact .inr (.inr h1)
      | true =>
        simp only [RS0, RS1, RS2, RS3, RS4, RS5, q3, c8']
        rw [decide_eq_true_eq] at q3
        have hfn : ((M.filter q).map (·.1)).Nodup := hkn.sublist (List.Sublist.map _ List.filter_sublist)
        obtain ⟨w8, hr8, hR8, hf8, hs8⟩ := range_delete K130 hR' hfn p.1 hnot 0 3
        refine RunS_ok hr8 ?_
        rw [delD_filter M hkn q p.1] at hR8
        refine ⟨⟨_, _, trivial, hR8, hln', fun x hx => ?_, hf7.trans (hf8.mono (fun y _ e => .inl e)) (fun _ _ e => e) (fun _ _ e => e)⟩, by rw [hR8.len, ← hR'.len]; exact hlen⟩
        rw [Bool.and_eq_true, hq x hx, hmem, Bool.not_eq_true', decide_eq_false_iff_not]
        constructor
        · rintro ⟨h1, h2⟩
          rcases h1 with h1 | h1 | h1
          · exact .inl h1
          · exact absurd h1 h2
          · exact .inr h1
        · rintro (h1 | h1)
          · exact ⟨.inl h1, by omega⟩
          · exact ⟨.inr (.inr h1), fun e => hnot (by rw [← e]; exact h1)⟩
  | true =>
    rw [q3, Bool.true_and] at hE
    simp only [RS0, RS1, RS2, RS3, RS4, RS5, hi2.c5, hi2.c6, q1', q2', q3]
    refine (wtail_spec hL2).mono ?_
    rintro _ w3 ⟨rfl, hf3⟩
    have hFW := Fmf hF2 hf3
    have hiW := hi2.keep0 hf3
    have hLW := hL2.keep0 hf3
    cases q4 : decide ((bn : Int) = (L.tail : Int)) with
    | false =>
      rw [q4, Bool.not_false, cond_true] at hE
      rw [hE]
      simp only [RS0, RS1, RS2, RS3, RS4, RS5, bne_dec, q4]
      exact ⟨(by trivial), same hFW⟩
    | true =>
    rw [q4, Bool.not_true, cond_false] at hE
    rw [hE] at hwf ⊢
    simp only at hwf ⊢
    simp only [RS0, RS1, RS2, RS3, RS4, RS5, bne_dec, q4]
    refine St_blk hiW.st (by show 5 < 9; decide) rfl ?_
    intro w4 hw4 hs4 hf4
    have hi4 := hiW.upd (L' := { L with start := bn }) hw4 hf4 rfl rfl
    simp only [RS0, RS1, RS2, RS3, RS4, RS5, hi4.c8]
    obtain ⟨w5, hr5, hR, hf5, hs5⟩ := range_run Tryz.underlying130 hi4.mp
    refine RunS_ok hr5 ?_
    have hi5 := hi4.keep0 hf5
    have hmx := hi.xs.2.1
    have hF5 : Fm X w w5 := Fm.step (Fm.step (hFW.mono (fun _ _ e => e.elim)) hf4 (by rintro y rfl; exact .inl hi.xs.1)) hf5 (fun _ e => e.elim)
    have hkn : (M.map (·.1)).Nodup := hi.mp.keys
    have hfr : w.heap.size ≤ w4.heap.size := Nat.le_trans hFW.size hf4.size
    refine ⟨fun vs w' => ∃ (q : Int × Array Value → Bool) (left : List (Int × Array Value)), vs = [] ∧ RangeAt w' w4.heap.size mb iv Value.agg (M.filter q) left ∧ (left.map (·.1)).Nodup ∧ (∀ p ∈ M, q p = true ↔ ((bn : Int) ≤ p.1 ∨ p.1 ∈ left.map (·.1))) ∧ Fm (fun y => y = mb ∨ y = w4.heap.size) w5 w', fun _ w' => Go.Al.rl w' w4.heap.size mb, ⟨fun _ => true, M, rfl, by rw [List.filter_eq_self.2 (fun _ _ => rfl)]; exact hR, hkn, fun p hp => ⟨fun _ => .inr (List.mem_map.2 ⟨p, hp, rfl⟩), fun _ => rfl⟩, Fm.refl _ _⟩, ?_⟩
    rintro g w6 ⟨q, left, -, hR6, hln, hq, hf6⟩
    have hnm5 : ∀ y, X y → ¬ y = w4.heap.size := by
      rintro y hy rfl
      have := hi4.lt _ hy
      omega
    have hst6 := hf6.heap hi5.st (by rintro (e | e); exact hi.nm e.symm; exact hnm5 _ hi.xs.1 e)
    have c8 : w6.cell? ⟨lb, 8, none⟩ = some (.map (some mb)) := by rw [cell_at hst6]; rfl
    rcases next_run (P := Tryz.prog) hR6 0 with ⟨rfl, hrun⟩ | ⟨i, p, w7, hp, hrun, hR', hf', hs', hent⟩
    · refine RunS_ok hrun ?_
      simp only [RS0, RS1, RS2, RS3, RS4, RS5]
      refine (wof_spec w6 (n := bn) (by omega) (by omega)).mono ?_
      rintro _ w6 ⟨rfl, rfl⟩
      refine (wfirst_spec w6 (k := (bn - 1) / 54) (by omega)).mono ?_
      rintro _ w6 ⟨rfl, rfl⟩
      have hkp6 : KpAt w6 5 kv L.kept := hi5.kp.keep hf6 (by
        rintro y hy (e | e)
        · exact hi.km (by rw [← e]; exact hy)
        · exact hnm5 _ (hi.xs.2.2.1 y hy) e)
      have c4 : w6.cell? ⟨lb, 4, none⟩ = some kv := by rw [cell_at hst6]; rfl
      have c3 : w6.cell? ⟨lb, 3, none⟩ = some (iv (L.base : Int)) := by rw [cell_at hst6]; rfl
      have hd6 := Fm.drew (fun _ => False) w6
      have ed : IntKind.i64.wrap (((((bn - 1) / 54 * 54 + 1 : Nat)) : Int) - (L.base : Int)) = (((bn - 1) / 54 * 54 + 1 - L.base : Nat) : Int) := by rw [wrap_id] <;> omega
      have hsm := h.wf.small
      obtain ⟨sv', hsl, hca, _⟩ := hkp6.cells.lo (i := (bn - 1) / 54 * 54 + 1 - L.base) (by omega) .i64
      refine ⟨fun w' => Fm (fun _ => False) w6 w', hd6, ?_⟩
      simp only [RS0, RS1, RS2, RS3, RS4, RS5]
      refine ⟨kv, fun w' h' => ?_, ?_⟩
      · have := h'.cell' c4 (fun e => e)
        simp only [RS0, RS1, RS2, RS3, RS4, RS5, this] <;> trivial
      refine ⟨iv (L.base : Int), fun w' h' => ?_, ?_⟩
      · have := h'.cell' c3 (fun e => e)
        simp only [RS0, RS1, RS2, RS3, RS4, RS5, this] <;> trivial
      simp only [RS0, RS1, RS2, RS3, RS4, RS5, ed, hsl]
      refine RunS_ok (bs123e _) ?_
      have hal := Fm.alloc (fun _ => False) w6.drew (.cells #[] 5)
      have hF9 := Fmf hd6 hal
      have how : (w6.drew.alloc (.cells #[] 5)).ownsRow w6.heap.size 5 1 (.slice (some ⟨w6.heap.size, 0, none⟩) 0 0) 0 [] := own_new (l := []) (n := 0) rfl (Nat.le_refl _) (Nat.zero_le _)
      refine ⟨hF9, ?_⟩
      have hz9 : w6.heap.size ≤ (w6.drew.alloc (.cells #[] 5)).heap.size := hF9.size
      obtain ⟨v', w10, hr10, ho10, hf10⟩ := append_srcO E38w (by omega) how (hca.keep hF9 (fun _ _ e => e)) (fun u hu => bc_one _ u (List.mem_of_mem_drop hu)) 123 (by unfold maxLen; omega) (by omega) hz9
      refine RunS_ok hr10 ?_
      rw [Nat.zero_add, List.nil_append, Nat.mul_one, bc_drop] at ho10
      have hkp10 : KpAt w10 5 v' (L.kept.drop ((bn - 1) / 54 * 54 + 1 - L.base)) := KpAt.of_own ho10
      have hlt10 := own_lt ho10
      have hF10 : Fm (fun _ => False) w6 w10 := Fm.own hF9 hf10 (by intro y hy; cases hy; exact Nat.le_refl _)
      have hst10 := hF10.heap hst6 (fun e => e)
      refine St_blk hst10 (by show 4 < 9; decide) hkp10.one ?_
      intro w11 hw11 hs11 hf11
      refine St_blk hw11 (by show 3 < 9; decide) rfl ?_
      intro w12 hw12 hs12 hf12
      have hFq : M.filter q = M.filter (fun p => decide ((bn : Int) ≤ p.1)) := List.filter_congr (fun p hp => by
        have hqp := hq p hp
        cases hqq : q p with
        | true => exact (decide_eq_true ((hqp.1 hqq).resolve_right (by simp))).symm
        | false => exact (decide_eq_false (fun e => by rw [hqp.2 (.inl e)] at hqq; cases hqq)).symm)
      have hmp6 := hR6.map (hkn.sublist (List.Sublist.map _ List.filter_sublist))
      rw [hFq] at hmp6
      have hlbw := hi.lt _ hi.xs.1
      have hz6 : w.heap.size ≤ w6.heap.size := Nat.le_trans hF5.size hf6.size
      have hf112 : Fm (· = lb) w10 w12 := hf11.trans hf12 (fun _ _ e => e) (fun _ _ e => e)
      have hF12 : Fm (· = lb) w6 w12 := hF10.trans hf112 (fun _ _ e => e.elim) (fun _ _ e => e)
      have a1 : Fm (fun y => y = lb ∨ y = mb ∨ w.heap.size ≤ y) w w4 := hFW.trans hf4 (fun _ _ e => e.elim) (fun _ _ e => .inl e)
      have a2 : Fm (fun y => y = lb ∨ y = mb ∨ w.heap.size ≤ y) w w5 := a1.trans hf5 (fun _ _ e => e) (fun _ _ e => e.elim)
      have a3 : Fm (fun y => y = lb ∨ y = mb ∨ w.heap.size ≤ y) w w6 := a2.trans hf6 (fun _ _ e => e) (fun x hx e => by
        rcases e with e | e
        · exact .inr (.inl e)
        · exact .inr (.inr (by omega)))
      have a4 : Fm (fun y => y = lb ∨ y = mb ∨ w.heap.size ≤ y) w w12 := a3.trans hF12 (fun _ _ e => e) (fun _ _ e => .inl e)
      refine ⟨(by trivial), fun y => X y ∨ v'.ownBlock = some y, ⟨hwf, P, mb, v', M.filter (fun p => decide ((bn : Int) ≤ p.1)), ⟨hw12, hkp10.keep hf112 (fun y hy e => by have := (hlt10 y hy).1; omega), hmp6.keep hF12 hi.nm, keys_filter M L.recs hi.keys _, fun k cs hm => ?_, ⟨.inl hi.xs.1, .inl hi.xs.2.1, fun y hy => .inr hy, fun y hy => .inl (hi.xs.2.2.2 y hy)⟩, ⟨hi.ps.1, hi.ps.2.1, fun y hy hP => ?_⟩, fun y hy => ?_⟩⟩, fun y hy => ?_, Fm.step (Fm.refl X w) a4 (fun y hy => ?_)⟩
      · obtain ⟨hm1, hm2⟩ := List.mem_filter.1 hm
        obtain ⟨r, g1, g2⟩ := hi.rec_ k cs hm1
        refine ⟨r, List.mem_filter.2 ⟨g1, hm2⟩, g2.keep a4 (fun y hy e => ?_)⟩
        have := hi.lt _ (hi.xs.2.2.2 y hy)
        rcases e with e | e | e
        · exact hi.ps.1 (by rw [← e]; exact hy)
        · exact hi.ps.2.1 (by rw [← e]; exact hy)
        · omega
      · have := hi.lt _ (hi.xs.2.2.2 y hP)
        have := (hlt10 y hy).1
        omega
      · have e1 := hf112.size
        rcases hy with hy | hy
        · have := hi.lt y hy
          have := hF12.size
          omega
        · have := (hlt10 y hy).2
          omega
      · rcases hy with hy | hy
        · exact .inl hy
        · have := (hlt10 y hy).1
          exact .inr (by omega)
      · rcases hy with rfl | rfl | hy
        · exact .inl hi.xs.1
        · exact .inl hi.xs.2.1
        · exact .inr hy
    · refine RunS_ok hrun ?_
      simp only [RS0, RS1, RS2, RS3, RS4, RS5]
      refine RunS_ok hent ?_
      have hlen : Go.Al.rl w7 w4.heap.size mb < Go.Al.rl w6 w4.heap.size mb := by
        rw [hR6.len, hR'.len]; have := len_erase hp; omega
      have hln' : ((left.eraseIdx i).map (·.1)).Nodup := by rw [← eraseIdx_mp]; exact nodup_erase hln i
      have hf7 : Fm (fun y => y = mb ∨ y = w4.heap.size) w5 w7 := hf6.trans (hf'.mono (fun y _ e => .inr e)) (fun _ _ e => e) (fun _ _ e => e)
      have hst7 := hf'.heap hst6 (by intro e; exact hnm5 _ hi.xs.1 e)
      have c8' : w7.cell? ⟨lb, 8, none⟩ = some (.map (some mb)) := by rw [cell_at hst7]; rfl
      have hmem : ∀ k, k ∈ left.map (·.1) ↔ k = p.1 ∨ k ∈ (left.eraseIdx i).map (·.1) := by
        intro k
        constructor
        · intro hk
          obtain ⟨x, hx, rfl⟩ := List.mem_map.1 hk
          rcases mem_erase_or hp hx with rfl | hx
          · exact .inl rfl
          · exact .inr (List.mem_map.2 ⟨x, hx, rfl⟩)
        · rintro (rfl | hk)
          · exact List.mem_map.2 ⟨p, List.mem_of_getElem? hp, rfl⟩
          · obtain ⟨x, hx, rfl⟩ := List.mem_map.1 hk
            exact List.mem_map.2 ⟨x, List.mem_of_mem_eraseIdx hx, rfl⟩
      have hnot : p.1 ∉ (left.eraseIdx i).map (·.1) := by
        intro hk
        obtain ⟨j, hj⟩ := List.getElem?_of_mem hk
        rw [← eraseIdx_mp, List.getElem?_eraseIdx] at hj
        have hpi : (left.map (·.1))[i]? = some p.1 := by rw [List.getElem?_map, hp]; rfl
        split at hj
        · have := (List.getElem?_inj (List.getElem?_eq_some_iff.1 hj).1 hln).1 (hj.trans hpi.symm)
          omega
        · have := (List.getElem?_inj (List.getElem?_eq_some_iff.1 hj).1 hln).1 (hj.trans hpi.symm)
          omega
      cases q3 : decide (p.1 < (bn : Int)) with
      | false =>
        rw [decide_eq_false_iff_not] at q3
        have q3' : decide (p.1 < (bn : Int)) = false := by rw [decide_eq_false_iff_not]; exact q3
        simp only [RS0, RS1, RS2, RS3, RS4, RS5, q3']
        refine ⟨⟨q, _, trivial, hR', hln', fun x hx => ?_, hf7⟩, hlen⟩
        rw [hq x hx, hmem]
        constructor
        · rintro (h1 | h1 | h1)
          · exact .inl h1
          · exact .inl (by omega)
          · exact .inr h1
        · rintro (h1 | h1)
          · exact .inl h1
          · exact .inr (.inr h1)
      | true =>
        simp only [RS0, RS1, RS2, RS3, RS4, RS5, q3, c8']
        rw [decide_eq_true_eq] at q3
        have hfn : ((M.filter q).map (·.1)).Nodup := hkn.sublist (List.Sublist.map _ List.filter_sublist)
        obtain ⟨w8, hr8, hR8, hf8, hs8⟩ := range_delete K130 hR' hfn p.1 hnot 0 3
        refine RunS_ok hr8 ?_
        rw [delD_filter M hkn q p.1] at hR8
        refine ⟨⟨_, _, trivial, hR8, hln', fun x hx => ?_, hf7.trans (hf8.mono (fun y _ e => .inl e)) (fun _ _ e => e) (fun _ _ e => e)⟩, by rw [hR8.len, ← hR'.len]; exact hlen⟩
        rw [Bool.and_eq_true, hq x hx, hmem, Bool.not_eq_true', decide_eq_false_iff_not]
        constructor
        · rintro ⟨h1, h2⟩
          rcases h1 with h1 | h1 | h1
          · exact .inl h1
          · exact absurd h1 h2
          · exact .inr h1
        · rintro (h1 | h1)
          · exact ⟨.inl h1, by omega⟩
          · exact ⟨.inr (.inr h1), fun e => hnot (by rw [← e]; exact h1)⟩
end Go.Proofs.YthbngnlmgplijaaGreatDoor

namespace Go.Proofs.YthbngnlmgplijaaGreatDoor
open Go.Al Go.Proofs
set_option linter.unusedVariables false
set_option linter.unusedSimpArgs false
set_option linter.unusedSectionVars false
set_option maxRecDepth 100000

theorem cellsV_cell {w : World} {ad : Addr} {n : Nat} {cs : Array Value} (h : cellsV w ad n = some (.agg cs)) {i : Nat} {x : Value} (hx : cs[i]? = some x) : w.cell? (ad.add i) = some x := by
  have key : ∀ (n j : Nat) (l : List Value), cellsAt w ad j n = some l → ∀ (i : Nat) (x : Value), l[i]? = some x → w.cell? (ad.add (j + i)) = some x := by
    intro n
    induction n with
    | zero => intro j l hl i x hx; simp only [cellsAt, Option.some.injEq] at hl; subst hl; simp at hx
    | succ n ih =>
      intro j l hl i x hx
      simp only [cellsAt] at hl
      cases hc : w.cell? (ad.add j) with
      | none => rw [hc] at hl; cases hl
      | some v =>
        rw [hc] at hl
        cases hr : cellsAt w ad (j + 1) n with
        | none => rw [hr] at hl; cases hl
        | some l' =>
          rw [hr] at hl
          simp only [Option.map_some, Option.some.injEq] at hl
          subst hl
          cases i with
          | zero => simp at hx; subst hx; exact hc
          | succ i =>
            have := ih (j + 1) l' hr i x (by simpa using hx)
            rw [show j + (i + 1) = j + 1 + i by omega]; exact this
  unfold cellsV at h
  cases hc : cellsAt w ad 0 n with
  | none => rw [hc] at h; cases h
  | some l =>
    rw [hc] at h
    simp only [Option.map_some, Option.some.injEq, Value.agg.injEq] at h
    subst h
    have := key n 0 l hc i x (by simpa using hx)
    rw [Nat.zero_add] at this; exact this
theorem im_sub {w : World} {ad : Addr} {m : Int} {p : Pg} {u : Value} (h : cellsV w ad 7 = some (.agg (imC (m, p, u)).toArray)) : cellsV w (ad.add 1) 6 = some (.agg (pcs p u)) := by
  refine cellsV_of (l := (pcs p u).toList) rfl fun j hj => ?_
  rw [add_add, Nat.add_comm 1 j]
  have hx : (imC (m, p, u)).toArray[j + 1]? = (pcs p u).toList[j]? := by
    rw [List.getElem?_toArray]; rfl
  have hlt : j < (pcs p u).toList.length := hj
  rw [List.getElem?_eq_getElem hlt] at hx ⊢
  exact cellsV_cell h (i := j + 1) hx

set_option maxHeartbeats 2000000 in
theorem rints_spec {w : World} {va vb : Value} {A B : List (Int)} (hA : CellsAt w va A.length 1 (A.map iv)) (hB : CellsAt w vb B.length 1 (B.map iv)) : Cl Tryz.prog 88 [va, vb] w fun v w' => v = .bool (decide (A = B)) ∧ Fm (fun _ => False) w w' := by
  have hlt := hA.lt
  unfold maxLen at hlt
  refine c88 ?_; unfold T88
  have dl : decide ((A.length : Int) = (B.length : Int)) = decide (A.length = B.length) := by rw [decide_eq_decide]; omega
  simp only [RS0, RS1, RS2, RS3, RS4, RS5, hA.lenV, hB.lenV, bne_dec, dl]
  cases hd : decide (A.length = B.length) with
  | false =>
    rw [decide_eq_false_iff_not] at hd
    rw [ne_len hd]
    simp only [RS0, RS1, RS2, RS3, RS4, RS5, Bool.not_false]
    exact ⟨(by trivial), Fm.refl _ _⟩
  | true =>
  rw [decide_eq_true_eq] at hd
  simp only [RS0, RS1, RS2, RS3, RS4, RS5, Bool.not_true, hA.lenV]
  refine ⟨fun vl w2 => ∃ i : Nat, vl = [iv i] ∧ i ≤ A.length ∧ A.take i = B.take i ∧ Fm (fun _ => False) w w2, fun vl _ => (A.length - nth vl 0).toNat, ⟨0, rfl, by omega, by simp, Fm.refl _ _⟩, ?_⟩
  rintro _ w2 ivv ⟨i, hvl, hi, ht, hF⟩
  cases hvl
  by_cases hl : i < A.length
  · have d1 : decide ((i : Int) < (A.length : Int)) = true := by rw [decide_eq_true_eq]; omega
    have e1 : IntKind.i64.wrap ((i : Int) + 1) = ((i + 1 : Nat) : Int) := by rw [wrap_id] <;> omega
    have hx : A[i]? = some A[i] := List.getElem?_eq_getElem hl
    have hy : B[i]? = some B[i] := List.getElem?_eq_getElem (by omega)
    generalize A[i] = x at hx
    generalize B[i] = y at hy
    have hFd := Fmf hF (Fm.drew _ w2)
    obtain ⟨ad, h1, _, h2⟩ := (hA.keep hF (fun _ _ e => e)).at1 (i := i) (x := iv x) (by rw [List.getElem?_map, hx]; rfl) .i64
    obtain ⟨ad', h3, _, h4⟩ := (hB.keep hF (fun _ _ e => e)).at1 (i := i) (x := iv y) (by rw [List.getElem?_map, hy]; rfl) .i64
    simp only [RS0, RS1, RS2, RS3, RS4, RS5, d1, h1, h2, h3, h4, bne_dec, true_and]
    cases hxy : decide (x = y) with
    | false =>
      rw [decide_eq_false_iff_not] at hxy
      rw [ne_at hx hy hxy]
      simp only [RS0, RS1, RS2, RS3, RS4, RS5, Bool.not_false]
      exact ⟨(by trivial), hFd⟩
    | true =>
      rw [decide_eq_true_eq] at hxy
      simp only [RS0, RS1, RS2, RS3, RS4, RS5, Bool.not_true, e1]
      exact ⟨⟨i + 1, rfl, by omega, take_step ht hx hy hxy, hFd⟩, by simp only [nth_0]; omega⟩
  · have hie : i = A.length := by omega
    subst hie
    have d1 : decide (((A.length : Nat) : Int) < (A.length : Int)) = false := by simp
    rw [eq_end hd ht]
    simp only [RS0, RS1, RS2, RS3, RS4, RS5, d1]
    exact ⟨(by trivial), hF⟩

set_option maxHeartbeats 16000000 in
theorem rrsame_spec {w : World} {ca cb : Array Value} {a b : Rc} (ha : RcAs w ca a) (hb : RcAs w cb b) : Cl Tryz.prog 15 [.agg ca, .agg cb] w fun v w' => v = .bool (decide (a = b)) ∧ Fm (fun _ => False) w w' := by
  obtain ⟨as_, am, ai, ap, at_, hca, _, has, ham, hai, hap, hat⟩ := ha.ex
  obtain ⟨bs_, bm, bi, bp, bt, hcb, _, hbs, hbm, hbi, hbp, hbt⟩ := hb.ex
  have hbulk := ha.bulk
  refine c15 ?_; unfold T15
  refine New_any ?_
  intro x1 w1 hx1 hs1 hw1 hf1
  refine New_any ?_
  intro x2 w2 hx2 hs2 hw2 hf2
  have hRa : RB w2 x1 a as_ am ai ap at_ := ⟨by rw [← hca]; exact hf2.heap hw1 (fun e => e)⟩
  have hRb : RB w2 x2 b bs_ bm bi bp bt := ⟨by rw [← hcb]; exact hw2⟩
  have hF2 := Fmf hf1 hf2
  simp only [RS0, RS1, RS2, RS3, RS4, RS5, Bool.not_true, hRa.c0, hRb.c0, bne_dec]
  cases g0 : decide (a.lsn = b.lsn) with
  | false =>
    rw [decide_eq_false_iff_not] at g0
    rw [rc_ne Rc.lsn g0]
    simp only [RS0, RS1, RS2, RS3, RS4, RS5, Bool.not_false]
    exact ⟨(by trivial), hF2⟩
  | true =>
  simp only [RS0, RS1, RS2, RS3, RS4, RS5, Bool.not_true, hRa.c1, hRb.c1, bne_dec]
  cases g1 : decide (a.prev = b.prev) with
  | false =>
    rw [decide_eq_false_iff_not] at g1
    rw [rc_ne Rc.prev g1]
    simp only [RS0, RS1, RS2, RS3, RS4, RS5, Bool.not_false]
    exact ⟨(by trivial), hF2⟩
  | true =>
  simp only [RS0, RS1, RS2, RS3, RS4, RS5, Bool.not_true, hRa.c2, hRb.c2, bne_dec]
  cases g2 : decide (a.next = b.next) with
  | false =>
    rw [decide_eq_false_iff_not] at g2
    rw [rc_ne Rc.next g2]
    simp only [RS0, RS1, RS2, RS3, RS4, RS5, Bool.not_false]
    exact ⟨(by trivial), hF2⟩
  | true =>
  simp only [RS0, RS1, RS2, RS3, RS4, RS5, Bool.not_true, hRa.c3, hRb.c3, bne_dec]
  cases g3 : decide (a.kind = b.kind) with
  | false =>
    rw [decide_eq_false_iff_not] at g3
    rw [rc_ne Rc.kind g3]
    simp only [RS0, RS1, RS2, RS3, RS4, RS5, Bool.not_false]
    exact ⟨(by trivial), hF2⟩
  | true =>
  simp only [RS0, RS1, RS2, RS3, RS4, RS5, Bool.not_true, hRa.c4, hRb.c4, bne_dec]
  cases g4 : decide (a.xid = b.xid) with
  | false =>
    rw [decide_eq_false_iff_not] at g4
    rw [rc_ne Rc.xid g4]
    simp only [RS0, RS1, RS2, RS3, RS4, RS5, Bool.not_false]
    exact ⟨(by trivial), hF2⟩
  | true =>
  simp only [RS0, RS1, RS2, RS3, RS4, RS5, Bool.not_true, hRa.c5, hRb.c5, bne_dec]
  cases g5 : decide (a.page = b.page) with
  | false =>
    rw [decide_eq_false_iff_not] at g5
    rw [rc_ne Rc.page g5]
    simp only [RS0, RS1, RS2, RS3, RS4, RS5, Bool.not_false]
    exact ⟨(by trivial), hF2⟩
  | true =>
  simp only [RS0, RS1, RS2, RS3, RS4, RS5, Bool.not_true, hRa.c6, hRb.c6, bne_dec]
  cases g6 : decide (a.slot = b.slot) with
  | false =>
    rw [decide_eq_false_iff_not] at g6
    rw [rc_ne Rc.slot g6]
    simp only [RS0, RS1, RS2, RS3, RS4, RS5, Bool.not_false]
    exact ⟨(by trivial), hF2⟩
  | true =>
  simp only [RS0, RS1, RS2, RS3, RS4, RS5, Bool.not_true, hRa.c7, hRb.c7, bne_dec]
  cases g7 : decide (a.old = b.old) with
  | false =>
    rw [decide_eq_false_iff_not] at g7
    rw [rc_ne Rc.old g7]
    simp only [RS0, RS1, RS2, RS3, RS4, RS5, Bool.not_false]
    exact ⟨(by trivial), hF2⟩
  | true =>
  simp only [RS0, RS1, RS2, RS3, RS4, RS5, Bool.not_true, hRa.c8, hRb.c8, bne_dec]
  cases g8 : decide (a.new = b.new) with
  | false =>
    rw [decide_eq_false_iff_not] at g8
    rw [rc_ne Rc.new g8]
    simp only [RS0, RS1, RS2, RS3, RS4, RS5, Bool.not_false]
    exact ⟨(by trivial), hF2⟩
  | true =>
  simp only [RS0, RS1, RS2, RS3, RS4, RS5, Bool.not_true, hRa.c9, hRb.c9, bne_dec]
  cases g9 : decide (a.redo = b.redo) with
  | false =>
    rw [decide_eq_false_iff_not] at g9
    rw [rc_ne Rc.redo g9]
    simp only [RS0, RS1, RS2, RS3, RS4, RS5, Bool.not_false]
    exact ⟨(by trivial), hF2⟩
  | true =>
  simp only [RS0, RS1, RS2, RS3, RS4, RS5, Bool.not_true, hRa.c10, hRb.c10, str_inj]
  cases g10 : decide (a.data = b.data) with
  | false =>
    rw [decide_eq_false_iff_not] at g10
    rw [rc_ne Rc.data g10]
    simp only [RS0, RS1, RS2, RS3, RS4, RS5, Bool.not_false]
    exact ⟨(by trivial), hF2⟩
  | true =>
  simp only [RS0, RS1, RS2, RS3, RS4, RS5, Bool.not_true, hRa.c11, hRb.c11]
  refine (rints_spec (has.keep hF2 (fun _ _ e => e)) (hbs.keep hF2 (fun _ _ e => e))).mono ?_
  rintro _ w3 ⟨rfl, hf3⟩
  have hF3 := Fmf hF2 hf3
  have hRa3 := hRa.keep hf3 (fun e => e)
  have hRb3 := hRb.keep hf3 (fun e => e)
  cases g11 : decide (a.slots = b.slots) with
  | false =>
    rw [decide_eq_false_iff_not] at g11
    rw [rc_ne Rc.slots g11]
    simp only [RS0, RS1, RS2, RS3, RS4, RS5, Bool.not_false]
    exact ⟨(by trivial), hF3⟩
  | true =>
  simp only [RS0, RS1, RS2, RS3, RS4, RS5, Bool.not_true, hRa3.c12, hRb3.c12]
  refine (rints_spec (ham.keep hF3 (fun _ _ e => e)) (hbm.keep hF3 (fun _ _ e => e))).mono ?_
  rintro _ w4 ⟨rfl, hf4⟩
  have hF4 := Fmf hF3 hf4
  have hRa4 := hRa3.keep hf4 (fun e => e)
  have hRb4 := hRb3.keep hf4 (fun e => e)
  cases g12 : decide (a.more = b.more) with
  | false =>
    rw [decide_eq_false_iff_not] at g12
    rw [rc_ne Rc.more g12]
    simp only [RS0, RS1, RS2, RS3, RS4, RS5, Bool.not_false]
    exact ⟨(by trivial), hF4⟩
  | true =>
  have hia := hai.keep hF4
  have hib := hbi.keep hF4
  have hpa := hap.keep hF4 (fun _ _ e => e)
  have hpb := hbp.keep hF4 (fun _ _ e => e)
  have hta := hat.keep hF4 (fun _ _ e => e)
  have htb := hbt.keep hF4 (fun _ _ e => e)
  have dl1 : decide ((a.imgs.length : Int) = (b.imgs.length : Int)) = decide (a.imgs.length = b.imgs.length) := by rw [decide_eq_decide]; omega
  have dl2 : decide ((a.pages.length : Int) = (b.pages.length : Int)) = decide (a.pages.length = b.pages.length) := by rw [decide_eq_decide]; omega
  have dl3 : decide ((a.txns.length : Int) = (b.txns.length : Int)) = decide (a.txns.length = b.txns.length) := by rw [decide_eq_decide]; omega
  simp only [RS0, RS1, RS2, RS3, RS4, RS5, Bool.not_true, hRa4.c13, hRb4.c13, hia.lenV, hib.lenV, bne_dec, dl1]
  cases hd1 : decide (a.imgs.length = b.imgs.length) with
  | false =>
    rw [decide_eq_false_iff_not] at hd1
    rw [rc_ne Rc.imgs (fun e => hd1 (congrArg List.length e))]
    simp only [RS0, RS1, RS2, RS3, RS4, RS5, Bool.not_false]
    exact ⟨(by trivial), hF4⟩
  | true =>
  simp only [RS0, RS1, RS2, RS3, RS4, RS5, Bool.not_true, hRa4.c14, hRb4.c14, hpa.lenV, hpb.lenV, bne_dec, dl2]
  cases hd2 : decide (a.pages.length = b.pages.length) with
  | false =>
    rw [decide_eq_false_iff_not] at hd2
    rw [rc_ne Rc.pages (fun e => hd2 (congrArg List.length e))]
    simp only [RS0, RS1, RS2, RS3, RS4, RS5, Bool.not_false]
    exact ⟨(by trivial), hF4⟩
  | true =>
  simp only [RS0, RS1, RS2, RS3, RS4, RS5, Bool.not_true, hRa4.c15, hRb4.c15, hta.lenV, htb.lenV, bne_dec, dl3]
  cases hd3 : decide (a.txns.length = b.txns.length) with
  | false =>
    rw [decide_eq_false_iff_not] at hd3
    rw [rc_ne Rc.txns (fun e => hd3 (congrArg List.length e))]
    simp only [RS0, RS1, RS2, RS3, RS4, RS5, Bool.not_false]
    exact ⟨(by trivial), hF4⟩
  | true =>
  rw [decide_eq_true_eq] at hd1 hd2 hd3
  simp only [RS0, RS1, RS2, RS3, RS4, RS5, Bool.not_true]
  clear dl1 dl2 dl3
  refine ⟨fun vl w5 => ∃ i : Nat, vl = [iv i] ∧ i ≤ a.imgs.length ∧ a.imgs.take i = b.imgs.take i ∧ Fm (fun _ => False) w4 w5, fun vl _ => (a.imgs.length - nth vl 0).toNat, ⟨0, rfl, by omega, by simp, Fm.refl _ _⟩, ?_⟩
  rintro _ w5 iv5 ⟨i, hvl, hile, htk, hf5⟩
  cases hvl
  have hRa5 := hRa4.keep hf5 (fun e => e)
  have hRb5 := hRb4.keep hf5 (fun e => e)
  have hia5 := hia.keep hf5
  have hib5 := hib.keep hf5
  by_cases hlt : i < a.imgs.length
  · have d1 : decide ((i : Int) < (a.imgs.length : Int)) = true := by rw [decide_eq_true_eq]; omega
    have e1 : IntKind.i64.wrap ((i : Int) + 1) = ((i + 1 : Nat) : Int) := by rw [wrap_id] <;> omega
    have hx : a.imgs[i]? = some a.imgs[i] := List.getElem?_eq_getElem hlt
    have hy : b.imgs[i]? = some b.imgs[i] := List.getElem?_eq_getElem (by omega)
    generalize a.imgs[i] = x at hx
    generalize b.imgs[i] = y at hy
    obtain ⟨ad, u, h1, h2, hu, hpu⟩ := hia5.ld hx
    obtain ⟨ad', u', h3, h4, hu', hpu'⟩ := hib5.ld hy
    have hc0 : w5.cell? ad = some (iv x.1) := by
      have := cellsV_cell h2 (i := 0) (x := iv x.1) rfl
      rw [Go.Al.add_zero] at this; exact this
    have hc0' : w5.cell? ad' = some (iv y.1) := by
      have := cellsV_cell h4 (i := 0) (x := iv y.1) rfl
      rw [Go.Al.add_zero] at this; exact this
    have hfd := Fm.drew (fun _ => False) w5
    have s1 := cellsV_keep (im_sub h2) hfd (fun e => e)
    have s2 := cellsV_keep (im_sub h4) hfd (fun e => e)
    simp only [RS0, RS1, RS2, RS3, RS4, RS5, hRa5.c13, hia5.lenV, d1, h1, hc0, hRb5.c13, h3, hc0', true_and, bne_dec]
    cases h0 : decide (x.1 = y.1) with
    | false =>
      rw [decide_eq_false_iff_not] at h0
      rw [rc_ne Rc.imgs (fun e => h0 (by rw [e, hy] at hx; cases hx; rfl))]
      simp only [RS0, RS1, RS2, RS3, RS4, RS5, Bool.not_false]
      exact ⟨(by trivial), trivial, trivial, trivial, trivial, Fmf hF4 (Fmf hf5 hfd)⟩
    | true =>
    rw [decide_eq_true_eq] at h0
    simp only [RS0, RS1, RS2, RS3, RS4, RS5, Bool.not_true, hRa5.c13, h1, s1, hRb5.c13, h3, s2, true_and]
    refine (rsame_spec ((hpu.keep hfd)) ((hpu'.keep hfd))).mono ?_
    rintro _ w6 ⟨rfl, hf6⟩
    have hF6 := Fmf hf5 (Fmf hfd hf6)
    cases h00 : decide (x.2 = y.2) with
    | false =>
      rw [decide_eq_false_iff_not] at h00
      rw [rc_ne Rc.imgs (fun e => h00 (by rw [e, hy] at hx; cases hx; rfl))]
      simp only [RS0, RS1, RS2, RS3, RS4, RS5, Bool.not_false]
      exact ⟨(by trivial), Fmf hF4 hF6⟩
    | true =>
    rw [decide_eq_true_eq] at h00
    simp only [RS0, RS1, RS2, RS3, RS4, RS5, Bool.not_true, e1]
    exact ⟨⟨i + 1, rfl, by omega, take_step htk hx hy (Prod.ext h0 h00), hF6⟩, by simp only [nth_0]; omega⟩
  have hie : i = a.imgs.length := by omega
  subst hie
  have d1 : decide (((a.imgs.length : Nat) : Int) < (a.imgs.length : Int)) = false := by simp
  have g13 := eq_end hd1 htk
  simp only [RS0, RS1, RS2, RS3, RS4, RS5, hRa5.c13, hia5.lenV, d1]
  clear d1 hlt htk
  have hpagesa := hpa.keep hf5 (fun _ _ e => e)
  have hpagesb := hpb.keep hf5 (fun _ _ e => e)
  refine ⟨fun vl w6 => ∃ i : Nat, vl = [iv i] ∧ i ≤ a.pages.length ∧ a.pages.take i = b.pages.take i ∧ Fm (fun _ => False) w5 w6, fun vl _ => (a.pages.length - nth vl 0).toNat, ⟨0, rfl, by omega, by simp, Fm.refl _ _⟩, ?_⟩
  rintro _ w6 iv6 ⟨i, hvl, hile, htk, hf6⟩
  cases hvl
  have hRa6 := hRa5.keep hf6 (fun e => e)
  have hRb6 := hRb5.keep hf6 (fun e => e)
  have hA := hpagesa.keep hf6 (fun _ _ e => e)
  have hB := hpagesb.keep hf6 (fun _ _ e => e)
  by_cases hlt : i < a.pages.length
  · have d1 : decide ((i : Int) < (a.pages.length : Int)) = true := by rw [decide_eq_true_eq]; omega
    have e1 : IntKind.i64.wrap ((i : Int) + 1) = ((i + 1 : Nat) : Int) := by rw [wrap_id] <;> omega
    have hx : a.pages[i]? = some a.pages[i] := List.getElem?_eq_getElem hlt
    have hy : b.pages[i]? = some b.pages[i] := List.getElem?_eq_getElem (by omega)
    generalize a.pages[i] = x at hx
    generalize b.pages[i] = y at hy
    obtain ⟨ad, h1, h2, _⟩ := cells_ld pc2_len (by omega) hA hx
    obtain ⟨ad', h3, h4, _⟩ := cells_ld pc2_len (by omega) hB hy
    have hfd := Fm.drew (fun _ => False) w6
    have h2' := cellsV_keep h2 hfd (fun e => e)
    have h4' := cellsV_keep h4 hfd (fun e => e)
    simp only [RS0, RS1, RS2, RS3, RS4, RS5, hRa6.c14, hA.lenV, d1, h1, h2', hRb6.c14, h3, h4', true_and]
    refine RunS_ok (neq96 _ _ x y _) ?_
    simp only [RS0, RS1, RS2, RS3, RS4, RS5, true_and]
    cases hxy : decide (x = y) with
    | false =>
      rw [decide_eq_false_iff_not] at hxy
      rw [rc_ne Rc.pages (fun e => hxy (by rw [e, hy] at hx; exact (Option.some.inj hx).symm))]
      simp only [RS0, RS1, RS2, RS3, RS4, RS5, Bool.not_false]
      exact ⟨(by trivial), Fmf hF4 (Fmf hf5 (Fmf hf6 hfd))⟩
    | true =>
      rw [decide_eq_true_eq] at hxy
      simp only [RS0, RS1, RS2, RS3, RS4, RS5, Bool.not_true, e1]
      exact ⟨⟨i + 1, rfl, by omega, take_step htk hx hy hxy, Fmf hf6 hfd⟩, by simp only [nth_0]; omega⟩
  have hie : i = a.pages.length := by omega
  subst hie
  have d1 : decide (((a.pages.length : Nat) : Int) < (a.pages.length : Int)) = false := by simp
  have g14 := eq_end hd2 htk
  simp only [RS0, RS1, RS2, RS3, RS4, RS5, hRa6.c14, hA.lenV, d1]
  clear d1 hlt htk
  have htxnsa := hta.keep (Fmf hf5 hf6) (fun _ _ e => e)
  have htxnsb := htb.keep (Fmf hf5 hf6) (fun _ _ e => e)
  refine ⟨fun vl w7 => ∃ i : Nat, vl = [iv i] ∧ i ≤ a.txns.length ∧ a.txns.take i = b.txns.take i ∧ Fm (fun _ => False) w6 w7, fun vl _ => (a.txns.length - nth vl 0).toNat, ⟨0, rfl, by omega, by simp, Fm.refl _ _⟩, ?_⟩
  rintro _ w7 iv7 ⟨i, hvl, hile, htk, hf7⟩
  cases hvl
  have hRa7 := hRa6.keep hf7 (fun e => e)
  have hRb7 := hRb6.keep hf7 (fun e => e)
  have hA := htxnsa.keep hf7 (fun _ _ e => e)
  have hB := htxnsb.keep hf7 (fun _ _ e => e)
  by_cases hlt : i < a.txns.length
  · have d1 : decide ((i : Int) < (a.txns.length : Int)) = true := by rw [decide_eq_true_eq]; omega
    have e1 : IntKind.i64.wrap ((i : Int) + 1) = ((i + 1 : Nat) : Int) := by rw [wrap_id] <;> omega
    have hx : a.txns[i]? = some a.txns[i] := List.getElem?_eq_getElem hlt
    have hy : b.txns[i]? = some b.txns[i] := List.getElem?_eq_getElem (by omega)
    generalize a.txns[i] = x at hx
    generalize b.txns[i] = y at hy
    obtain ⟨ad, h1, h2, _⟩ := cells_ld pc2_len (by omega) hA hx
    obtain ⟨ad', h3, h4, _⟩ := cells_ld pc2_len (by omega) hB hy
    have hfd := Fm.drew (fun _ => False) w7
    have h2' := cellsV_keep h2 hfd (fun e => e)
    have h4' := cellsV_keep h4 hfd (fun e => e)
    simp only [RS0, RS1, RS2, RS3, RS4, RS5, hRa7.c15, hA.lenV, d1, h1, h2', hRb7.c15, h3, h4', true_and]
    refine RunS_ok (neq99 _ _ x y _) ?_
    simp only [RS0, RS1, RS2, RS3, RS4, RS5, true_and]
    cases hxy : decide (x = y) with
    | false =>
      rw [decide_eq_false_iff_not] at hxy
      rw [rc_ne Rc.txns (fun e => hxy (by rw [e, hy] at hx; exact (Option.some.inj hx).symm))]
      simp only [RS0, RS1, RS2, RS3, RS4, RS5, Bool.not_false]
      exact ⟨(by trivial), Fmf hF4 (Fmf (Fmf hf5 hf6) (Fmf hf7 hfd))⟩
    | true =>
      rw [decide_eq_true_eq] at hxy
      simp only [RS0, RS1, RS2, RS3, RS4, RS5, Bool.not_true, e1]
      exact ⟨⟨i + 1, rfl, by omega, take_step htk hx hy hxy, Fmf hf7 hfd⟩, by simp only [nth_0]; omega⟩
  have hie : i = a.txns.length := by omega
  subst hie
  have d1 : decide (((a.txns.length : Nat) : Int) < (a.txns.length : Int)) = false := by simp
  have g15 := eq_end hd3 htk
  simp only [RS0, RS1, RS2, RS3, RS4, RS5, hRa7.c15, hA.lenV, d1]
  refine ⟨?_, Fmf hF4 (Fmf hf5 (Fmf hf6 hf7))⟩
  congr 1
  symm
  rw [decide_eq_true_eq] at g0 g1 g2 g3 g4 g5 g6 g7 g8 g9 g10 g11 g12 g13 g14 g15 ⊢
  cases a; cases b
  simp only at g0 g1 g2 g3 g4 g5 g6 g7 g8 g9 g10 g11 g12 g13 g14 g15
  subst g0 g1 g2 g3 g4 g5 g6 g7 g8 g9 g10 g11 g12 g13 g14 g15
  rfl

end Go.Proofs.YthbngnlmgplijaaGreatDoor

namespace Go.Proofs.YthbngnlmgplijaaGreatDoor
open Go.Al Go.Proofs
set_option linter.unusedVariables false
set_option linter.unusedSimpArgs false
set_option linter.unusedSectionVars false
set_option maxRecDepth 100000

def vRecs : Vw Tryz.prog 49 (List RecT) := vSlice Tryz.underlying49 (by kernel_rfl) vRec
theorem vRecs_szd : Szd vRecs (fun xs => (xs.map recSz).sum + 1) := Szd.slice vRec_szd
theorem recSz_pos (x : RecT) : 1 ≤ recSz x := by unfold recSz; omega
theorem sum_ge {l : List RecT} : l.length ≤ (l.map recSz).sum ∧ ∀ x ∈ l, recSz x ≤ (l.map recSz).sum := by
  induction l with
  | nil => simp
  | cons x l ih =>
    have := recSz_pos x
    simp only [List.length_cons, List.map_cons, List.sum_cons]
    refine ⟨by omega, fun y hy => ?_⟩
    rcases List.mem_cons.1 hy with rfl | hy
    · omega
    · have := ih.2 y hy; omega
abbrev RV := { c : Array Value // c.size = 16 }
def rvl (x : Rc × RV) : List Value := x.2.1.toList
theorem rvl_len (x : Rc × RV) : (rvl x).length = 16 := by unfold rvl; rw [Array.length_toList]; exact x.2.2
theorem E49 : ElemT Tryz.prog 49 28 16 216 := elemT_of Tryz.underlying49 (by kernel_rfl)
theorem bsR49 (r : Rc) (a1 a2 a3 a4 a5 : Option Addr) (n1 n2 n3 n4 n5 c1 c2 c3 c4 c5 : Nat) (w : World) : (Instr.buildSlice 49 1 #[(0, .agg (rcs r (.slice a1 n1 c1) (.slice a2 n2 c2) (.slice a3 n3 c3) (.slice a4 n4 c4) (.slice a5 n5 c5)))]).run Tryz.prog w = .ok (.slice (some ⟨w.heap.size, 0, none⟩) 1 1) (w.alloc (.cells (rcs r (.slice a1 n1 c1) (.slice a2 n2 c2) (.slice a3 n3 c3) (.slice a4 n4 c4) (.slice a5 n5 c5)) 28)) := by kernel_rfl
theorem bsR49r {w : World} {cs : Array Value} {r : Rc} (h : RcAs w cs r) (w' : World) : (Instr.buildSlice 49 1 #[(0, .agg cs)]).run Tryz.prog w' = .ok (.slice (some ⟨w'.heap.size, 0, none⟩) 1 1) (w'.alloc (.cells cs.toList.toArray 28)) := by
  obtain ⟨vs, vm, vi, vp, vt, rfl, _, h1, h2, h3, h4, h5⟩ := h.ex
  obtain ⟨X, _, h3, _⟩ := h3.ex
  obtain ⟨⟨a1, c1, rfl, _⟩, _⟩ := h1
  obtain ⟨⟨a2, c2, rfl, _⟩, _⟩ := h2
  obtain ⟨⟨a3, c3, rfl, _⟩, _⟩ := h3
  obtain ⟨⟨a4, c4, rfl, _⟩, _⟩ := h4
  obtain ⟨⟨a5, c5, rfl, _⟩, _⟩ := h5
  exact bsR49 _ _ _ _ _ _ _ _ _ _ _ _ _ _ _ _ _
theorem rv0 {w : World} {x : Rc × RV} (h : RcAs w x.2.1 x.1) : (rvl x)[0]? = some (iv x.1.lsn) := by
  obtain ⟨vs, vm, vi, vp, vt, e, _⟩ := h.ex
  unfold rvl
  rw [e]; rfl
def lsns (W : List (Rc × RV)) : List Int := W.map (fun x => x.1.lsn)
def recsOf (W : List (Rc × RV)) : List (Int × Rc) := W.map (fun x => (x.1.lsn, x.1))
theorem recs_keys (W : List (Rc × RV)) : (recsOf W).map (·.1) = lsns W := by unfold recsOf lsns; rw [List.map_map]; rfl
theorem lsns_get {W : List (Rc × RV)} {i : Nat} {x : Rc × RV} (h : W[i]? = some x) : (lsns W)[i]? = some x.1.lsn := by unfold lsns; rw [List.getElem?_map, h]; rfl
theorem asc_drop : ∀ {W : List (Rc × RV)}, (lsns W).Pairwise (· < ·) → ∀ {k : Nat} {x : Rc × RV}, W[k]? = some x → (recsOf W).filter (fun p => decide (x.1.lsn ≤ p.1)) = recsOf (W.drop k)
  | [], _, k, x, h => by simp at h
  | y :: W, ha, 0, x, h => by
    obtain rfl : y = x := by simpa using h
    have ha' : ∀ z ∈ lsns W, y.1.lsn < z := (List.pairwise_cons.1 ha).1
    rw [List.drop_zero, List.filter_eq_self.2]
    intro p hp
    rw [decide_eq_true_eq]
    obtain ⟨z, hz, rfl⟩ := List.mem_map.1 hp
    rcases List.mem_cons.1 hz with rfl | hz
    · exact Int.le_refl _
    · exact Int.le_of_lt (ha' _ (List.mem_map.2 ⟨z, hz, rfl⟩))
  | y :: W, ha, k + 1, x, h => by
    have h' : W[k]? = some x := by simpa using h
    have ha' := List.pairwise_cons.1 ha
    have hx : x.1.lsn ∈ lsns W := List.mem_map.2 ⟨x, List.mem_of_getElem? h', rfl⟩
    have hlt : y.1.lsn < x.1.lsn := ha'.1 _ hx
    have e : recsOf (y :: W) = (y.1.lsn, y.1) :: recsOf W := rfl
    rw [e, List.filter_cons, if_neg (by simp; omega), List.drop_succ_cons]
    exact asc_drop ha'.2 h'
theorem asc_nodup {l : List Int} (h : l.Pairwise (· < ·)) : l.Nodup := h.imp (fun hab e => by omega)
theorem getD_recs {W : List (Rc × RV)} (h : (lsns W).Pairwise (· < ·)) {k : Nat} {x : Rc × RV} (hx : W[k]? = some x) : getD (recsOf W) x.1.lsn = some x.1 := by
  rw [getD_some (by rw [recs_keys]; exact asc_nodup h)]
  exact List.mem_map.2 ⟨x, List.mem_of_getElem? hx, rfl⟩
theorem getD_recs_no {W : List (Rc × RV)} {a : Int} : getD (recsOf W) a = none ↔ a ∉ lsns W := by rw [getD_none, recs_keys]

theorem flat_drop {α : Type} {f : α → List Value} {n : Nat} (hf : ∀ x, (f x).length = n) : ∀ (W : List α) (k : Nat), (W.drop k).flatMap f = (W.flatMap f).drop (k * n)
  | [], k => by simp
  | x :: W, 0 => by simp
  | x :: W, k + 1 => by
    rw [List.drop_succ_cons, flat_drop hf W k, List.flatMap_cons, show (k + 1) * n = (f x).length + k * n from by rw [hf, Nat.add_mul, Nat.one_mul, Nat.add_comm]]
    rw [← List.drop_drop, List.drop_left]
structure GS (w0 : World) (z2 b g m lb : Nat) (w : World) (W : List (Rc × RV)) (av : Value) (L : Lg) (X : Nat → Prop) (d : Dk) : Prop where
  hL : LAt w X lb b L
  hd : DAt w b g m d
  calm : Lg.Calm d
  len : d.cur.length = 200 ∧ L.frm = 0 ∧ L.n = 200
  hX : ∀ y, X y → w0.heap.size ≤ y
  hXd : ¬ X b ∧ ¬ X g ∧ ¬ X m
  recs : L.recs = recsOf W
  asc : (lsns W).Pairwise (· < ·)
  rc : ∀ x ∈ W, RcAs w0 x.2.1 x.1
  ow : w.ownsRow z2 28 16 av W.length (W.flatMap rvl)
  sep : ∀ y, av.ownBlock = some y → ¬ X y
  F : Fm (fun _ => False) w0 w
  zz : z2 ≤ w.heap.size
section
variable {w0 : World} {z2 b g m lb : Nat} {w w' : World} {W : List (Rc × RV)} {av : Value} {L : Lg} {X : Nat → Prop} {d : Dk}
theorem GS.keep (h : GS w0 z2 b g m lb w W av L X d) (hf : Fm (fun _ => False) w w') : GS w0 z2 b g m lb w' W av L X d :=
  ⟨h.hL.keep0 hf, h.hd.keep0 hf, h.calm, h.len, h.hX, h.hXd, h.recs, h.asc, h.rc, own_keep h.ow hf (fun _ _ _ _ e => e), h.sep, Fmf h.F hf, Nat.le_trans h.zz hf.size⟩
theorem GS.at (h : GS w0 z2 b g m lb w W av L X d) {k : Nat} {x : Rc × RV} (hx : W[k]? = some x) : ∃ ad, ixV 16 av (iv (k : Int)) = some (.pointer (some ad)) ∧ w.cell? ad = some (iv x.1.lsn) ∧ cellsV w ad 16 = some (.agg x.2.1) := by
  have hc := CellsAt.of_own h.ow
  obtain ⟨ad, h1, h2, h3⟩ := cells_ld rvl_len (by omega) hc hx
  have hk := (List.getElem?_eq_some_iff.1 hx).1
  obtain ⟨ad', h4, _, h5⟩ := hc.at (by omega) hk .i64
  rw [h1] at h4
  cases h4
  refine ⟨ad, h1, ?_, ?_⟩
  · have := h5 0 (by omega)
    rw [Go.Al.add_zero, flat_get rvl_len hx (by omega), rv0 (h.rc x (List.mem_of_getElem? hx))] at this
    exact this
  · rw [h2]; unfold rvl; simp
theorem GS.flush (h : GS w0 z2 b g m lb w W av L X d) (hz : b < z2 ∧ g < z2 ∧ m < z2) (hz0 : w0.heap.size ≤ b ∧ w0.heap.size ≤ g ∧ w0.heap.size ≤ m) (u : Int) : Cl Tryz.prog 26 [pv lb, iv u] w fun v w' => v = iv 0 ∧ ∃ L' d', GS w0 z2 b g m lb w' W av L' X d' ∧ L'.start = L.start := by
  have hl := h.len
  obtain ⟨c1, c2, c3, c4⟩ := h.calm.flush h.hL.wf (by omega) u
  refine (wflush_spec h.hL h.hd h.hXd u).mono ?_
  rintro _ w' ⟨rfl, h1, h2, hf⟩
  have hlt := own_lt h.ow
  have hnot : ∀ y, av.ownBlock = some y → ¬ FD lb b g m y := by
    intro y hy
    have := (hlt y hy).1
    rintro (e | e | e | e)
    · exact h.sep y hy (by rw [e]; exact h.hL.lb)
    · omega
    · omega
    · omega
  have hlb := h.hX _ h.hL.lb
  refine ⟨by rw [c1], _, _, ⟨h1, h2, c2, ⟨by rw [c3]; exact hl.1, ?_⟩, h.hX, h.hXd, ?_, h.asc, h.rc, own_keep h.ow hf (fun y _ _ hy => hnot y hy), h.sep, Fm.own h.F hf (by rintro y (e | e | e | e) <;> omega), Nat.le_trans h.zz hf.size⟩, ?_⟩
  · rcases c4 with e | e <;> rw [e] <;> exact hl.2
  · rcases c4 with e | e <;> rw [e] <;> exact h.recs
  · rcases c4 with e | e <;> rw [e]
end
theorem app_cases (L : Lg) (r : Rc) (hl : ∀ m ∈ r.imgs, m.2.lsn ≤ 9223372036854775807) : ((L.append r).2.2 ≠ 0 ∧ (L.append r).1 = L) ∨
    ((L.append r).2.2 = 0 ∧ (L.append r).2.1 = (L.tail : Int) ∧ (L.append r).1.frm = L.frm ∧ (L.append r).1.n = L.n ∧ (L.append r).1.start = L.start ∧ (L.append r).1.recs = setD L.recs (L.tail : Int) (atR r L.tail)) := by
  unfold Lg.append
  cases hc : decide ((rCheck (atR r L.tail)).2 = 0) with
  | false =>
    rw [decide_eq_false_iff_not] at hc
    simp only [cond_false]
    exact .inl ⟨hc, trivial⟩
  | true =>
    cases decide (L.room < ((rEnc (atR r L.tail)).1.length : Int)) with
    | true =>
      simp only [cond_true]
      exact .inl ⟨by decide, trivial⟩
    | false =>
      simp only [cond_true, cond_false]
      exact .inr ⟨trivial, trivial, trivial, trivial, trivial, trivial⟩
set_option maxHeartbeats 16000000 in
theorem wgets_law {w : World} {v : Value} {xs : List RecT} (to_ atv : Int) (hv : SliceAs vRec w v xs) (hz : (xs.map recSz).sum + 1 ≤ 1048576) : Cl Tryz.prog 5 [v, iv to_, iv atv] w fun r w' => r = .bool true ∧ Fm (fun _ => False) w w' := by
  have hsum := sum_ge (l := xs)
  have hc28 : Tryz.prog.cellsOf 28 = 16 := by kernel_rfl
  have one0 := rcs_one (r := rc0) (vs := nl) (vm := nl) (vi := nl) (vp := nl) (vt := nl) rfl rfl rfl rfl rfl
  refine c5 ?_; unfold T5
  refine (dnew_spec w 200).mono ?_
  rintro _ w1 ⟨_, h2⟩
  obtain ⟨b, g, m, rfl, hb, hg, hm, hd, hf1⟩ := h2 (by omega)
  clear h2
  have hlt := hd.lt
  have hcalm : Lg.Calm (Dk.mk0 200) := calm_mk0 (by omega)
  have hml : (Dk.mk0 200).cur.length = 200 := mk0_len 200
  change DAt w1 b g m (Dk.mk0 200) at hd
  simp only [RS0, RS1, RS2, RS3, RS4, RS5, bne_refl0]
  obtain ⟨hz0, hcal2, hlen2⟩ := calm_fmt hcalm (i := 0) (j := 200) (by omega) (by omega)
  refine (wformat_spec hd ((0 : Nat) : Int) ((200 : Nat) : Int)).mono ?_
  rintro _ w2 ⟨p, rfl, hd2, hf2, _, h3⟩
  obtain ⟨lb, X, rfl, hL2, hX⟩ := h3 hz0
  rw [hz0]
  generalize (fmtE (Dk.mk0 200) ((0 : Nat) : Int) ((200 : Nat) : Int)).1 = d2 at hd2 hcal2 hlen2
  simp only [Int.toNat_natCast] at hL2
  have hF2 : Fm (fun _ => False) w w2 := Fm.own hf1 hf2 (by rintro y (rfl | rfl | rfl) <;> assumption)
  have z1 := hf1.size
  have z12 := hf2.size
  have hzb : b < w2.heap.size ∧ g < w2.heap.size ∧ m < w2.heap.size := by omega
  have hz00 : w.heap.size ≤ b ∧ w.heap.size ≤ g ∧ w.heap.size ≤ m := by omega
  have hzw2 := hF2.size
  have hG2 : GS w w2.heap.size b g m lb w2 [] nl (Lg.new 0 200) X d2 := ⟨hL2, hd2, hcal2, ⟨by rw [hlen2, hml], rfl, rfl⟩, fun y hy => by have := hX y hy; omega, ⟨fun e => by have := hX _ e; omega, fun e => by have := hX _ e; omega, fun e => by have := hX _ e; omega⟩, rfl, List.Pairwise.nil, by simp, World.ownsRow_nil _ _ _ _, (fun y hy => by cases hy), hF2, Nat.le_refl _⟩
  have hstart : (Lg.new 0 200).start = 1 := rfl
  generalize Lg.new 0 200 = L2 at hG2 hstart
  clear hX h3 hz0 hcalm hml hd hf2 hL2 hd2 hcal2 hlen2
  generalize w2.heap.size = z2 at *
  simp only [RS0, RS1, RS2, RS3, RS4, RS5, bne_refl0]
  refine ⟨fun vs w' => ∃ (i : Nat) (W : List (Rc × RV)) (av : Value) (L : Lg) (X : Nat → Prop) (d : Dk), vs = [av, iv (i : Int)] ∧ i ≤ xs.length ∧ W.length ≤ i ∧ GS w z2 b g m lb w' W av L X d,
    fun vs _ => (xs.length - nth vs 1).toNat, ⟨0, [], nl, L2, X, d2, rfl, by omega, by simp, hG2⟩, ?_⟩
  clear hG2 hF2
  rintro _ w3 av iv0 ⟨i, W, avx, L, X, d, hvs, hi, hWi, hG⟩
  cases hvs
  have hlv : lenV v = some (iv (xs.length : Int)) := hv.lenV
  by_cases hlt2 : i < xs.length
  · have hx : xs[i]? = some xs[i] := List.getElem?_eq_getElem hlt2
    have hmem := List.getElem_mem hlt2
    generalize xs[i] = x at hx hmem
    have d1 : decide ((i : Int) < (xs.length : Int)) = true := by rw [decide_eq_true_eq]; omega
    have e1 : IntKind.i64.wrap ((i : Int) + 1) = ((i + 1 : Nat) : Int) := by rw [wrap_id] <;> omega
    obtain ⟨ad, cs0, h1, h2, h3, h4⟩ := hv.ld hx hc28 .i64
    have hR0 : RcAs w cs0.toArray (rcOf x) := rec_of (by rw [List.toList_toArray]; exact h2) (by have := hsum.2 x hmem; omega)
    have h3' := cellsV_keep h3 hG.F (fun e => e)
    have h1' : ixV 16 v (iv (i : Int)) = some (.pointer (some ad)) := h1
    generalize rcOf x = r at hR0
    obtain ⟨vs, vm, vi, vp, vt, hcs, hv1, _⟩ := hR0.ex
    rw [hcs] at hR0 h3'
    clear hcs h3
    have one1 := hR0.one
    simp only [RS0, RS1, RS2, RS3, RS4, RS5, hlv, d1, h1', h3']
    refine New_any ?_
    intro x4 w4 hx4 hs4 hw4 hf4
    refine St_all hw4 rfl rfl one1 ?_
    intro w5 hw5 hs5 hf5
    have hF5 : Fm (fun _ => False) w3 w5 := Fm.own hf4 hf5 (by rintro y rfl; omega)
    have hG5 := hG.keep hF5
    have hcv5 : cellsV w5 ⟨x4, 0, none⟩ 16 = some (.agg (rcs r vs vm vi vp vt)) := cellsV_blk hw5 rfl
    simp only [RS0, RS1, RS2, RS3, RS4, RS5, hcv5]
    refine (wappend_spec hG5.hL (cs := rcs r vs vm vi vp vt) (r := r) (fun w' hf => hR0.keep (Fm.own hG5.F hf hG5.hX))).mono ?_
    rintro _ w6 ⟨rfl, X', hL6, hX6, hf6⟩
    have z5 := hG5.F.size
    have hXx : ¬ X x4 := fun e => by have := hG.hL.lt _ e; omega
    have hw6 := hf6.heap hw5 hXx
    have hF6 : Fm (fun _ => False) w w6 := Fm.own hG5.F hf6 hG5.hX
    have hlt5 := own_lt hG5.ow
    have ho6 := own_keep hG5.ow hf6 (fun y _ _ hy => hG5.sep y hy)
    have hd6 := hG5.hd.keep hf6 hG5.hXd.1 hG5.hXd.2.1 hG5.hXd.2.2
    have hdl := hG5.hd.lt
    have hdl3 := hG.hd.lt
    have hzz5 := hG5.zz
    have z6 := hf6.size
    have hX6w : ∀ y, X' y → w.heap.size ≤ y := fun y hy => by
      rcases hX6 y hy with e | e
      · exact hG.hX y e
      · omega
    have hX6d : ¬ X' b ∧ ¬ X' g ∧ ¬ X' m := ⟨fun e => by rcases hX6 _ e with e | e; exact hG.hXd.1 e; omega, fun e => by rcases hX6 _ e with e | e; exact hG.hXd.2.1 e; omega, fun e => by rcases hX6 _ e with e | e; exact hG.hXd.2.2 e; omega⟩
    have hsep6 : ∀ y, av.ownBlock = some y → ¬ X' y := fun y hy e => by
      rcases hX6 y e with e | e
      · exact hG.sep y hy e
      · have := (hlt5 y hy).2; omega
    simp only [RS0, RS1, RS2, RS3, RS4, RS5]
    refine Jn_at (fun vs w' => ∃ (W' : List (Rc × RV)) (av' : Value) (L' : Lg) (X' : Nat → Prop) (d' : Dk), vs = [av'] ∧ W'.length ≤ i + 1 ∧ GS w z2 b g m lb w' W' av' L' X' d') ?_ ?_
    · rintro _ w7 ⟨W', av', L', X', d', rfl, hW', hG7⟩ _
      refine ⟨_, rfl, ?_⟩
      have q2 := quo_nat (TypeDesc.int IntKind.i64) (n := xs.length) (m := 2) (by decide) (by omega) (b := 2) rfl
      simp only [RS0, RS1, RS2, RS3, RS4, RS5, hlv, q2, beq_dec]
      cases hq : decide ((i : Int) = ((xs.length / 2 : Nat) : Int)) with
      | false =>
        simp only [RS0, RS1, RS2, RS3, RS4, RS5, e1]
        exact ⟨⟨i + 1, W', av', L', X', d', rfl, by omega, hW', hG7⟩, by simp only [nth_1]; omega⟩
      | true =>
        simp only [RS0, RS1, RS2, RS3, RS4, RS5]
        refine (wtail_spec hG7.hL).mono ?_
        rintro _ w8 ⟨rfl, hf8⟩
        try simp only [RS0, RS1, RS2, RS3, RS4, RS5]
        refine ((hG7.keep hf8).flush hzb hz00 _).mono ?_
        rintro _ w9 ⟨rfl, L9, d9, hG9, _⟩
        simp only [RS0, RS1, RS2, RS3, RS4, RS5, bne_refl0, e1]
        exact ⟨⟨i + 1, W', av', L9, X', d9, rfl, by omega, hW', hG9⟩, by simp only [nth_1]; omega⟩
    intro jj hjj
    simp only [RS0, RS1, RS2, RS3, RS4, RS5, beq_dec]
    rcases app_cases L r hR0.lsns with ⟨a1, a2⟩ | ⟨a1, a2, a3, a4, a5, a6⟩
    · rw [decide_eq_false a1]
      rw [a2] at hL6
      simp only [RS0, RS1, RS2, RS3, RS4, RS5]
      exact hjj _ _ ⟨W, av, L, X', d, rfl, by omega, hL6, hd6, hG.calm, hG.len, hX6w, hX6d, hG.recs, hG.asc, hG.rc, ho6, hsep6, hF6, by omega⟩
    · rw [decide_eq_true a1, a2]
      have hlow := hG.hL.wf.low
      simp only [RS0, RS1, RS2, RS3, RS4, RS5]
      refine St_blk hw6 (by show 0 < 16; decide) rfl ?_
      intro w7 hw7 hs7 hf7
      rw [rcs_at] at hw7
      have hR7 := hR0.atR hlow
      have z6 := hf6.size
      have hF67 : Fm (fun _ => False) w w7 := Fm.own hF6 hf7 (by rintro y rfl; omega)
      have hcv7 : cellsV w7 ⟨x4, 0, none⟩ 16 = some (.agg (rcs (atR r L.tail) vs vm vi vp vt)) := cellsV_blk hw7 rfl
      simp only [RS0, RS1, RS2, RS3, RS4, RS5, hcv7]
      refine RunS_ok (bsR49r hR7 _) ?_
      have hX4' : ¬ X' x4 := fun e => by
        rcases hX6 _ e with e | e
        · exact hXx e
        · omega
      have hX7w := hX6w
      have hf8 := Fm.alloc (fun _ => False) w7 (.cells (rcs (atR r L.tail) vs vm vi vp vt).toList.toArray 28)
      have hn8 := alloc_new w7 (.cells (rcs (atR r L.tail) vs vm vi vp vt).toList.toArray 28)
      have z7 := hf7.size
      have hx4lt := lt_of_heap hw5
      have ho7 := own_keep ho6 hf7 (fun y _ hy2 hy e => by
        have := (hlt5 y hy).2
        have := (own_lt hG.ow y hy).2
        omega)
      have ho8 := own_keep ho7 hf8 (fun _ _ _ _ e => e)
      have hL8 := (hL6.keep hf7 (fun y hy e => hX4' (by rw [← e]; exact hy))).keep0 hf8
      have hd8 := (hd6.keep hf7 (fun e => by omega) (fun e => by omega) (fun e => by omega)).keep0 hf8
      have hF8 := Fmf hF67 hf8
      generalize w7.alloc (.cells (rcs (atR r L.tail) vs vm vi vp vt).toList.toArray 28) = w8 at hf8 hn8 ho8 hL8 hd8 hF8
      have z8 := hf8.size
      have z35 := hF5.size
      obtain ⟨av', w9, hr9, ho9, hav9, hf9⟩ := app_fine E49 (by omega) ho8 (cs := (rcs (atR r L.tail) vs vm vi vp vt).toList) hn8 rfl hR7.one (by omega) (by unfold maxLen; omega) (by omega)
      refine RunS_ok hr9 ?_
      have hlt8 := own_lt ho8
      have hnb : ∀ y, av.ownBlock = some y → ¬ y = b ∧ ¬ y = g ∧ ¬ y = m := fun y hy => by have := (hlt8 y hy).1; omega
      have htl : ((L.tail : Nat) : Int) = (atR r L.tail).lsn := rfl
      have hnew : getD L.recs (L.tail : Int) = none := by
        rw [getD_none]
        intro hm
        obtain ⟨p, hp, hpe⟩ := List.mem_map.1 hm
        have := (hG.hL.wf.ok p hp).2.2.2.2
        omega
      refine hjj _ _ ⟨W ++ [(atR r L.tail, ⟨rcs (atR r L.tail) vs vm vi vp vt, rfl⟩)], av', (L.append r).1, X', d, rfl, by simp; omega, ?_⟩
      refine ⟨hL8.keep hf9 (fun y hy e => hsep6 y e hy), hd8.keep hf9 (fun e => (hnb _ e).1 rfl) (fun e => (hnb _ e).2.1 rfl) (fun e => (hnb _ e).2.2 rfl), hG.calm, ⟨hG.len.1, by rw [a3]; exact hG.len.2.1, by rw [a4]; exact hG.len.2.2⟩, hX6w, hX6d, ?_, ?_, ?_, ?_, ?_, Fm.own hF8 hf9 (fun y hy => by have := (hlt8 y hy).1; omega), by have := hf9.size; omega⟩
      · rw [a6, setD_new _ _ _ hnew, hG.recs]
        unfold recsOf
        rw [List.map_append]; rfl
      · unfold lsns
        rw [List.map_append, List.pairwise_append]
        refine ⟨hG.asc, by simp, fun a ha c hc => ?_⟩
        obtain rfl : c = (L.tail : Int) := by simpa [htl] using hc
        obtain ⟨y, hy, rfl⟩ := List.mem_map.1 ha
        exact (hG.hL.wf.ok (y.1.lsn, y.1) (by rw [hG.recs]; exact List.mem_map.2 ⟨y, hy, rfl⟩)).2.2.2.2
      · intro y hy
        rcases List.mem_append.1 hy with hy | hy
        · exact hG.rc y hy
        · obtain rfl : y = _ := by simpa using hy
          exact hR7
      · rw [List.length_append, List.flatMap_append, List.flatMap_cons, List.flatMap_nil, List.append_nil]
        exact ho9
      · intro y hy e
        rcases hav9 y hy with h | h
        · exact hsep6 y h e
        · have := hL8.lt y e
          omega
  · have d1 : decide ((i : Int) < (xs.length : Int)) = false := by rw [decide_eq_false_iff_not]; omega
    simp only [RS0, RS1, RS2, RS3, RS4, RS5, hlv, d1]
    have hGF := hG.F
    refine Jn_at (fun vs w' => ∃ (W : List (Rc × RV)) (av : Value) (L : Lg) (X : Nat → Prop), vs = [av] ∧ W.length ≤ xs.length ∧ LAt w' X lb b L ∧ L.recs = recsOf W ∧ (lsns W).Pairwise (· < ·) ∧ (∀ x ∈ W, RcAs w x.2.1 x.1) ∧ CellsAt w' av W.length 16 (W.flatMap rvl) ∧ Fm (fun _ => False) w w') ?_ ?_
    · clear hG
      rintro _ w4 ⟨W, av, L, X, rfl, hWl, hL, hrecs, hasc, hrc, hca, hF4⟩ _
      refine ⟨_, rfl, ?_⟩
      have hat : ∀ {k : Nat} {x : Rc × RV} {w' : World}, W[k]? = some x → Fm (fun _ => False) w4 w' → ∃ ad, ixV 16 av (iv (k : Int)) = some (.pointer (some ad)) ∧ w'.cell? ad = some (iv x.1.lsn) ∧ cellsV w' ad 16 = some (.agg x.2.1) := by
        intro k x w' hx hf
        have hc := hca.keep hf (fun _ _ e => e)
        obtain ⟨ad, h1, h2, h3⟩ := cells_ld rvl_len (by omega) hc hx
        have hk := (List.getElem?_eq_some_iff.1 hx).1
        obtain ⟨ad', h4, _, h5⟩ := hc.at (by omega) hk .i64
        rw [h1] at h4
        cases h4
        refine ⟨ad, h1, ?_, ?_⟩
        · have := h5 0 (by omega)
          rw [Go.Al.add_zero, flat_get rvl_len hx (by omega), rv0 (hrc x (List.mem_of_getElem? hx))] at this
          exact this
        · rw [h2]; unfold rvl; simp
      refine ⟨fun vs w' => ∃ i : Nat, vs = [.bool (decide (atv ∈ (lsns W).take i)), iv (i : Int)] ∧ i ≤ W.length ∧ Fm (fun _ => False) w4 w', fun vs _ => (W.length - nth vs 1).toNat, ⟨0, by simp, by omega, Fm.refl _ _⟩, ?_⟩
      rintro _ w5 isv ivv ⟨i, hvs, hi, hf5⟩
      cases hvs
      have hL5 := hL.keep0 hf5
      by_cases hlt : i < W.length
      · have hx : W[i]? = some W[i] := List.getElem?_eq_getElem hlt
        generalize W[i] = x at hx
        have hxm := List.mem_of_getElem? hx
        have d1 : decide ((i : Int) < (W.length : Int)) = true := by rw [decide_eq_true_eq]; omega
        have e1 : IntKind.i64.wrap ((i : Int) + 1) = ((i + 1 : Nat) : Int) := by rw [wrap_id] <;> omega
        obtain ⟨ad, k1, k2, k3⟩ := hat hx hf5
        simp only [RS0, RS1, RS2, RS3, RS4, RS5, hca.lenV, d1, k1, k2]
        refine (wget_spec hL5 x.1.lsn).mono ?_
        rintro _ w6 ⟨hf6, h6⟩
        rw [hrecs, getD_recs hasc hx] at h6
        rcases h6 with ⟨h6, _⟩ | ⟨r, cs, h6, rfl, hR6⟩
        · cases h6
        cases h6
        have hsz := hR6.size
        have hone := hR6.one
        simp only [RS0, RS1, RS2, RS3, RS4, RS5]
        refine New_any ?_
        intro x7 w7 hx7 hs7 hw7 hf7
        refine St_all hw7 rfl hsz hone ?_
        intro w8 hw8 hs8 hf8
        have hF8 : Fm (fun _ => False) w6 w8 := Fm.own hf7 hf8 (by rintro y rfl; omega)
        have hfd := Fm.drew (fun _ => False) w8
        have hF48 := Fmf hf5 (Fmf hf6 (Fmf hF8 hfd))
        obtain ⟨ad2, g1, g2, g3⟩ := hat hx hF48
        have hcv : cellsV w8.drew ⟨x7, 0, none⟩ 16 = some (.agg cs) := cellsV_keep (cellsV_blk hw8 hsz) hfd (fun e => e)
        rw [k1] at g1
        cases g1
        simp only [RS0, RS1, RS2, RS3, RS4, RS5, bne_refl0, hcv, k1, g3, true_and]
        refine (rrsame_spec (hR6.keep (Fmf hF8 hfd)) ((hrc x hxm).keep (Fmf hF4 hF48))).mono ?_
        rintro _ w9 ⟨rfl, hf9⟩
        have hF49 := Fmf hF48 hf9
        obtain ⟨ad3, q1, q2, q3⟩ := hat hx hF49
        rw [k1] at q1
        cases q1
        have htk : (lsns W).take (i + 1) = (lsns W).take i ++ [x.1.lsn] := by
          rw [List.take_add_one, lsns_get hx]; rfl
        simp only [RS0, RS1, RS2, RS3, RS4, RS5, decide_true, Bool.not_true]
        cases his : decide (atv ∈ (lsns W).take i) with
        | true =>
          rw [decide_eq_true_eq] at his
          simp only [RS0, RS1, RS2, RS3, RS4, RS5, e1]
          exact ⟨⟨i + 1, by rw [htk, decide_eq_true (List.mem_append.2 (.inl his))], by omega, hF49⟩, by simp only [nth_1]; omega⟩
        | false =>
          rw [decide_eq_false_iff_not] at his
          have he : (x.1.lsn == atv) = decide (atv ∈ (lsns W).take (i + 1)) := by
            rw [htk]
            have : (atv ∈ (lsns W).take i ++ [x.1.lsn]) ↔ x.1.lsn = atv := by
              rw [List.mem_append, List.mem_singleton]
              exact ⟨fun h => (h.resolve_left his).symm, fun h => .inr h.symm⟩
            rw [decide_eq_decide.2 this]
            rfl
          simp only [RS0, RS1, RS2, RS3, RS4, RS5, k1, q2, he, e1]
          exact ⟨⟨i + 1, rfl, by omega, hF49⟩, by simp only [nth_1]; omega⟩
      · have hie : i = W.length := by omega
        subst hie
        have d1 : decide (((W.length : Nat) : Int) < (W.length : Int)) = false := by simp
        have hll : (lsns W).length = W.length := by unfold lsns; simp
        rw [List.take_of_length_le (by omega)]
        simp only [RS0, RS1, RS2, RS3, RS4, RS5, hca.lenV, d1]
        refine (wget_spec hL5 atv).mono ?_
        rintro _ w6 ⟨hf6, h6⟩
        rw [hrecs] at h6
        have hF6 := Fmf hF4 (Fmf hf5 hf6)
        rcases h6 with ⟨h6, rfl⟩ | ⟨r, cs, h6, rfl, hR6⟩
        · rw [decide_eq_false (getD_recs_no.1 h6)]
          simp only [RS0, RS1, RS2, RS3, RS4, RS5]
          refine New_any ?_
          intro x7 w7 hx7 hs7 hw7 hf7
          refine St_all hw7 rfl rfl one0 ?_
          intro w8 hw8 hs8 hf8
          have hF8 : Fm (fun _ => False) w6 w8 := Fm.own hf7 hf8 (by rintro y rfl; omega)
          simp only [RS0, RS1, RS2, RS3, RS4, RS5, show ((51 : Int) == 0) = false from rfl, show ((51 : Int) == 51) = true from rfl, show (false == false) = true from rfl]
          refine (waw_spec w8).mono ?_
          rintro _ w9 ⟨rfl, hf9⟩
          exact ⟨(by trivial), Fmf hF6 (Fmf hF8 hf9)⟩
        · have hin : atv ∈ lsns W := Classical.byContradiction fun e => by rw [getD_recs_no.2 e] at h6; cases h6
          rw [decide_eq_true hin]
          simp only [RS0, RS1, RS2, RS3, RS4, RS5]
          refine New_any ?_
          intro x7 w7 hx7 hs7 hw7 hf7
          refine St_all hw7 rfl hR6.size hR6.one ?_
          intro w8 hw8 hs8 hf8
          have hF8 : Fm (fun _ => False) w6 w8 := Fm.own hf7 hf8 (by rintro y rfl; omega)
          simp only [RS0, RS1, RS2, RS3, RS4, RS5, show ((0 : Int) == 0) = true from rfl, show (true == true) = true from rfl]
          refine (waw_spec w8).mono ?_
          rintro _ w9 ⟨rfl, hf9⟩
          exact ⟨(by trivial), Fmf hF6 (Fmf hF8 hf9)⟩
    intro jj hjj
    have hca := CellsAt.of_own hG.ow
    cases hpos : decide (0 < (W.length : Int)) with
    | false =>
      simp only [RS0, RS1, RS2, RS3, RS4, RS5, hca.lenV, hpos]
      exact hjj _ _ ⟨W, av, L, X, rfl, by omega, hG.hL, hG.recs, hG.asc, hG.rc, hca, hG.F⟩
    | true =>
      rw [decide_eq_true_eq] at hpos
      have hpos' : decide (0 < (W.length : Int)) = true := decide_eq_true hpos
      obtain ⟨m1, m2, m3, m4⟩ := mod3 (TypeDesc.int IntKind.i64) (n := W.length) (by omega) (by omega) to_
      generalize modN W.length to_ = k at m3 m4
      have hx : W[k]? = some W[k] := List.getElem?_eq_getElem m4
      generalize W[k] = x at hx
      have hxm := List.mem_of_getElem? hx
      have hfd := Fm.drew (fun _ => False) w3
      obtain ⟨ad, k1, k2, _⟩ := hG.at hx
      simp only [RS0, RS1, RS2, RS3, RS4, RS5, hca.lenV, hpos', m1, m2, m3]
      refine ⟨fun w' => Fm (fun _ => False) w3 w', hfd, ?_⟩
      simp only [RS0, RS1, RS2, RS3, RS4, RS5, k1]
      refine ⟨iv x.1.lsn, fun w' h' => ?_, ?_⟩
      · have := h'.cell' k2 (fun e => e)
        simp only [RS0, RS1, RS2, RS3, RS4, RS5, this] <;> trivial
      refine (wflushed_spec (hG.hL.keep0 hfd)).mono ?_
      rintro _ w4 ⟨rfl, hf4⟩
      have hF4 := Fmf hfd hf4
      have hG4 := hG.keep hF4
      refine ⟨hF4, ?_⟩
      have k2' := hF4.cell' k2 (fun e => e)
      simp only [RS0, RS1, RS2, RS3, RS4, RS5, k1, k2']
      have hin := (hG.hL.wf.ok (x.1.lsn, x.1) (by rw [hG.recs]; exact List.mem_map.2 ⟨x, hxm, rfl⟩))
      have hst := hG.hL.wf.st; have hlow := hG.hL.wf.low
      have hsm := hin.2.2.2
      simp only at hsm
      refine (wrecycle_spec hG4.hL x.1.lsn (by omega)).mono ?_
      rintro _ w5 ⟨rfl, X', hL5, hX5, hf5⟩
      have hgd : (getD L.recs x.1.lsn).isNone = false := by rw [hG.recs, getD_recs hG.asc hx]; rfl
      have hE : L.recycle x.1.lsn = bif decide ((L.last : Int) < x.1.lsn) then (L, 51)
          else ({ L with start := x.1.lsn.toNat, recs := L.recs.filter (fun p => decide (x.1.lsn ≤ p.1)), kept := L.kept.drop (Lg.baseOf x.1.lsn.toNat - L.base), base := Lg.baseOf x.1.lsn.toNat }, 0) := by
        unfold Lg.recycle
        rw [hgd, decide_eq_false (show ¬ x.1.lsn < (L.start : Int) by omega), Bool.false_and, Bool.or_false, Bool.false_or]
      have ho5 := own_keep hG4.ow hf5 (fun y _ _ hy => hG4.sep y hy)
      have hca5 := CellsAt.of_own ho5
      have hF5 : Fm (fun _ => False) w w5 := Fm.own hG4.F hf5 hG4.hX
      rw [hE] at hL5 ⊢
      cases hq : decide ((L.last : Int) < x.1.lsn) with
      | true =>
        rw [decide_eq_true_eq] at hq
        have hq2 : decide (x.1.lsn ≤ (L.last : Int)) = false := by rw [decide_eq_false_iff_not]; omega
        rw [decide_eq_true hq, cond_true] at hL5
        simp only [RS0, RS1, RS2, RS3, RS4, RS5, hq2, cond_true, show ((51 : Int) == 0) = false from rfl, show (false != false) = false from rfl]
        exact hjj _ _ ⟨W, av, L, X', rfl, by omega, hL5, hG.recs, hG.asc, hG.rc, hca5, hF5⟩
      | false =>
        rw [decide_eq_false_iff_not] at hq
        have hq2 : decide (x.1.lsn ≤ (L.last : Int)) = true := by rw [decide_eq_true_eq]; omega
        rw [decide_eq_false hq, cond_false] at hL5
        obtain ⟨av', hsl, hca', _⟩ := hca5.lo (i := k) (by omega) .i64
        simp only [RS0, RS1, RS2, RS3, RS4, RS5, hq2, cond_false, show ((0 : Int) == 0) = true from rfl, show (true != true) = false from rfl, hsl]
        refine hjj _ _ ⟨W.drop k, av', _, X', rfl, by rw [List.length_drop]; omega, hL5, ?_, ?_, fun y hy => hG.rc y (List.mem_of_mem_drop hy), ?_, hF5⟩
        · show L.recs.filter _ = _
          rw [hG.recs]; exact asc_drop hG.asc hx
        · unfold lsns
          rw [List.map_drop]; exact hG.asc.drop
        · rw [List.length_drop, flat_drop rvl_len]
          exact hca'
end Go.Proofs.YthbngnlmgplijaaGreatDoor
