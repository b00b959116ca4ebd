/- How what comes in is read: views, made of views. -/
import Derived.Test.YthbngnlmgplijaaGreatDoorAlLaw
import Derived.Test.YthbngnlmgplijaaGreatDoorAlBytes
import Derived.Test.YthbngnlmgplijaaGreatDoorAlNum
import Derived.Deep.Slices
namespace Go.Al
set_option linter.unusedVariables false
set_option linter.unusedSimpArgs false
set_option linter.unusedSectionVars false
open Go.ChangeShapes Go.WideShapes Go.ChangeAt Go.RowKit

/-- A view of a type's cells as a thing of α. -/
structure Vw (P : Program) (t : TypeId) (α : Type) where
  rel : World → List Value → α → Prop
  keep : ∀ {w w' : World} {cs : List Value} {x : α}, rel w cs x → Fm (fun _ => False) w w' → rel w' cs x
  len : ∀ {w : World} {cs : List Value} {x : α}, rel w cs x → cs.length = P.cellsOf t
  opens : ∀ {H : Type} {enc : TypeId × Value → H} {w : World} {base : Nat} {spare : Nat → Bool} {held : Bool} {fuel : Nat} {cs : List Value} {y : DataW H × List MemPlace},
    DataW.trod enc P w base spare held fuel t cs = some y → (∀ n ∈ y.1.weights P t, n ≤ reachBytes) → ∃ x, rel w cs x

def vInt {P : Program} {t : TypeId} (k : IntKind) (ht : P.underlying t = some (.int k)) (hc : P.cellsOf t = 1) : Vw P t Int where
  rel := fun _ cs x => cs = [.int k x] ∧ (Lit.int k x).wf = true
  keep := fun h _ => h
  len := fun h => by rw [h.1, hc]; rfl
  opens := fun h _ => by
    obtain ⟨n, h1, h2, h3⟩ := DataW.trod_int ht h
    exact ⟨n, h1, h3⟩
def vBool {P : Program} {t : TypeId} (ht : P.underlying t = some .bool) (hc : P.cellsOf t = 1) : Vw P t Bool where
  rel := fun _ cs x => cs = [.bool x]
  keep := fun h _ => h
  len := fun h => by rw [h, hc]; rfl
  opens := fun h _ => by
    obtain ⟨n, h1, h2⟩ := DataW.trod_bool ht h
    exact ⟨n, h1⟩
def vStr {P : Program} {t : TypeId} (ht : P.underlying t = some .string) (hc : P.cellsOf t = 1) : Vw P t Bs where
  rel := fun _ cs x => cs = [stv x] ∧ x.length ≤ reachBytes
  keep := fun h _ => h
  len := fun h => by rw [h.1, hc]; rfl
  opens := fun h hw => by
    obtain ⟨s, h1, h2, _⟩ := DataW.trod_string ht h
    subst h2
    refine ⟨s.data.toList, by rw [h1, stv, str_data], hw _ (by simp [DataW.weights])⟩

theorem weightsAll_mem {H : Type} {P : Program} {e : TypeId} {d : DataW H} {n : Nat} (hn : n ∈ d.weights P e) : ∀ {l : List (DataW H)}, d ∈ l → n ∈ DataW.weightsAll P e l
  | [], h => by cases h
  | x :: l, h => by
    rw [DataW.weightsAll, List.mem_append]
    rcases List.mem_cons.1 h with rfl | h
    · exact .inl hn
    · exact .inr (weightsAll_mem hn h)

/-- A slice whose elements are viewed. -/
structure SliceAs {P : Program} {e : TypeId} {α : Type} (A : Vw P e α) (w : World) (v : Value) (xs : List α) : Prop where
  ex : ∃ a cap, v = .slice a xs.length cap ∧ xs.length ≤ cap ∧ cap ≤ maxLen ∧ (a = none → xs.length = 0 ∧ cap = 0) ∧
    ∀ i x, xs[i]? = some x → ∃ ad cs', a = some ad ∧ A.rel w cs' x ∧ ∀ j, j < P.cellsOf e → w.cell? (ad.add (i * P.cellsOf e + j)) = cs'[j]?
  small : xs.length * P.bytesOf e ≤ reachBytes
theorem SliceAs.keep {P : Program} {e : TypeId} {α : Type} {A : Vw P e α} {w w' : World} {v : Value} {xs : List α} (h : SliceAs A w v xs) (hf : Fm (fun _ => False) w w') : SliceAs A w' v xs := by
  obtain ⟨⟨a, cap, h1, h2, h3, h4, h5⟩, hs⟩ := h
  refine ⟨⟨a, cap, h1, h2, h3, h4, fun i x hi => ?_⟩, hs⟩
  obtain ⟨ad, cs', g1, g2, g3⟩ := h5 i x hi
  refine ⟨ad, cs', g1, A.keep g2 hf, fun j hj => ?_⟩
  have := g3 j hj
  have hl := A.len g2
  rw [List.getElem?_eq_getElem (by omega)] at this ⊢
  exact hf.cell' this (fun e => e)
theorem SliceAs.lenV {P : Program} {e : TypeId} {α : Type} {A : Vw P e α} {w : World} {v : Value} {xs : List α} (h : SliceAs A w v xs) : lenV v = some (iv xs.length) := by
  obtain ⟨⟨a, cap, rfl, _⟩, _⟩ := h; rfl
theorem SliceAs.len {P : Program} {e : TypeId} {α : Type} {A : Vw P e α} {w : World} {v : Value} {xs : List α} (h : SliceAs A w v xs) : xs.length ≤ maxLen := by
  obtain ⟨⟨a, cap, rfl, h1, h2, _⟩, _⟩ := h; omega
/-- Element i. -/
theorem SliceAs.at {P : Program} {e : TypeId} {α : Type} {A : Vw P e α} {w : World} {v : Value} {xs : List α} (h : SliceAs A w v xs) {i : Nat} {x : α} (hi : xs[i]? = some x) {c : Nat} (hc : P.cellsOf e = c) (k : IntKind) :
    ∃ ad cs', ixV c v (.int k i) = some (.pointer (some ad)) ∧ A.rel w cs' x ∧ ∀ j, j < c → w.cell? (ad.add j) = cs'[j]? := by
  obtain ⟨⟨a, cap, rfl, h1, h2, h3, h4⟩, _⟩ := h
  obtain ⟨ad, cs', rfl, g2, g3⟩ := h4 i x hi
  have hlt := (List.getElem?_eq_some_iff.1 hi).1
  exact ⟨_, cs', ixV_at hlt, g2, fun j hj => by rw [add_add, ← hc]; exact g3 j (by rw [hc]; exact hj)⟩
/-- As a run of cells. -/
theorem SliceAs.cells {P : Program} {e : TypeId} {α : Type} {A : Vw P e α} {w : World} {v : Value} {xs : List α} (h : SliceAs A w v xs) (hc : P.cellsOf e = 1) {f : α → Value} (hf : ∀ cs x, A.rel w cs x → cs = [f x]) : CellsAt w v xs.length 1 (xs.map f) := by
  obtain ⟨⟨a, cap, rfl, h1, h2, h3, h4⟩, _⟩ := h
  refine ⟨⟨a, cap, rfl, h1, h2, h3, fun j u hj => ?_⟩, by simp⟩
  rw [List.getElem?_map, Option.map_eq_some_iff] at hj
  obtain ⟨x, hx, rfl⟩ := hj
  obtain ⟨ad, cs', g1, g2, g3⟩ := h4 j x hx
  refine ⟨ad, g1, ?_⟩
  have := g3 0 (by omega)
  rw [hc, Nat.mul_one, Nat.add_zero, hf _ _ g2] at this
  exact this

def vSlice {P : Program} {t e : TypeId} {α : Type} (ht : P.underlying t = some (.slice e)) (hc : P.cellsOf t = 1) (A : Vw P e α) : Vw P t (List α) where
  rel := fun w cs xs => ∃ v, cs = [v] ∧ SliceAs A w v xs
  keep := fun ⟨v, h1, h2⟩ hf => ⟨v, h1, h2.keep hf⟩
  len := fun ⟨v, h1, _⟩ => by rw [h1, hc]; rfl
  opens := fun {H enc w base spare held fuel cs y} h hw => by
    rcases Deep.open_slice ht h with ⟨rfl, rfl⟩ | ⟨a, len, cap, m, n, D, Pl, rfl, _, hl, hcap, hm, rfl, hx⟩
    · exact ⟨[], _, rfl, ⟨none, 0, rfl, by simp, by simp [maxLen], fun _ => ⟨rfl, rfl⟩, fun i x hi => by simp at hi⟩, by simp⟩
    · have hlm : len ≤ m := by rw [hm]; split <;> omega
      have hwt : ∀ i, i < len → ∀ q ∈ (D i).weights P e, q ≤ reachBytes := fun i hi q hq => hw q (by
        simp only [DataW.weights, ht, List.mem_cons, List.mem_append]
        exact .inr (.inl (weightsAll_mem hq (List.mem_map.2 ⟨i, by simpa using hi, rfl⟩))))
      have hsm : len * P.bytesOf e ≤ reachBytes := by
        have := hw ((((List.range len).map D).length + ((List.range (m - len)).map fun j => D (len + j)).length) * P.bytesOf e) (by simp [DataW.weights, ht])
        refine Nat.le_trans (Nat.mul_le_mul_right _ ?_) this
        simp
      have key : ∀ i, i < len → ∃ x : α × List Value, A.rel w x.2 x.1 ∧ ∀ j, j < P.cellsOf e → w.cell? (a.add (i * P.cellsOf e + j)) = x.2[j]? := by
        intro i hi
        obtain ⟨cs', h1, h2⟩ := hx i (by omega)
        obtain ⟨_, hlen, hat⟩ := World.cells?_some h1
        obtain ⟨x, hxr⟩ := A.opens h2 (hwt i hi)
        exact ⟨(x, cs'), hxr, fun j hj => by rw [← add_add, hat j hj]⟩
      refine ⟨List.ofFn (n := len) (fun i => (Classical.choose (key i i.2)).1), _, rfl, ⟨some a, cap, by simp, by simpa using hl, hcap, fun e => by simp at e, fun i x hi => ?_⟩, by simpa using hsm⟩
      rw [List.getElem?_ofFn] at hi
      split at hi
      · rename_i hi1
        simp only [Option.some.injEq] at hi
        subst hi
        have hk := Classical.choose_spec (key i hi1)
        exact ⟨a, _, rfl, hk.1, hk.2⟩
      · cases hi

/-- A view of a struct's fields from cell o on. -/
structure Fv (P : Program) (fs : List Field) (o : Nat) (α : Type) where
  c : Nat
  rel : World → List Value → α → Prop
  keep : ∀ {w w' : World} {cs : List Value} {x : α}, rel w cs x → Fm (fun _ => False) w w' → rel w' cs x
  len : ∀ {w : World} {cs : List Value} {x : α}, rel w cs x → cs.length = c
  opens : ∀ {H : Type} {enc : TypeId × Value → H} {w : World} {base : Nat} {spare : Nat → Bool} {held : Bool} {n : Nat} {cs0 : List Value} {ys : List (DataW H × List MemPlace)},
    (∀ (i : Nat) (f : Field), fs[i]? = some f → DataW.trod enc P w base spare held n f.type ((cs0.drop f.offset).take (P.cellsOf f.type)) = ys[i]?) → ys.length = fs.length →
    (∀ (i : Nat) (f : Field) (y : DataW H × List MemPlace), fs[i]? = some f → ys[i]? = some y → ∀ n ∈ y.1.weights P f.type, n ≤ reachBytes) → ∃ x, rel w ((cs0.drop o).take c) x
def fvNil {P : Program} {o : Nat} : Fv P [] o Unit where
  c := 0
  rel := fun _ cs _ => cs = []
  keep := fun h _ => h
  len := fun h => by rw [h]; rfl
  opens := fun _ _ _ => ⟨(), by simp⟩
def fvCons {P : Program} {f : Field} {fs : List Field} {o : Nat} {α β : Type} (hf : f.offset = o) (n : Nat) (hn : P.cellsOf f.type = n) (A : Vw P f.type α) (B : Fv P fs (o + n) β) : Fv P (f :: fs) o (α × β) where
  c := n + B.c
  rel := fun w cs x => ∃ c1 c2, cs = c1 ++ c2 ∧ A.rel w c1 x.1 ∧ B.rel w c2 x.2
  keep := fun ⟨c1, c2, h1, h2, h3⟩ hf => ⟨c1, c2, h1, A.keep h2 hf, B.keep h3 hf⟩
  len := fun ⟨c1, c2, h1, h2, h3⟩ => by rw [h1, List.length_append, A.len h2, B.len h3, hn]
  opens := fun {H enc w base spare held m cs0 ys} h hl hw => by
    have h0 := h 0 f rfl
    cases ys with
    | nil => simp at hl
    | cons y ys =>
      obtain ⟨x, hx⟩ := A.opens h0 (hw 0 f y rfl rfl)
      obtain ⟨x', hx'⟩ := B.opens (enc := enc) (w := w) (base := base) (spare := spare) (held := held) (n := m) (cs0 := cs0) (ys := ys) (fun i g hg => by have := h (i + 1) g (by simpa using hg); simpa using this) (by simpa using hl) (fun i g y' hg hy' => hw (i + 1) g y' (by simpa using hg) (by simpa using hy'))
      refine ⟨(x, x'), _, _, ?_, hx, hx'⟩
      rw [hf, hn]
      rw [List.take_add, List.drop_drop]

/-- A struct whose fields are viewed. -/
def vStruct {P : Program} {t : TypeId} {fs : Array Field} {α : Type} (ht : P.underlying t = some (.struct fs)) (F : Fv P fs.toList 0 α) (hc : P.cellsOf t = F.c) : Vw P t α where
  rel := F.rel
  keep := F.keep
  len := fun h => by rw [hc]; exact F.len h
  opens := fun {H enc w base spare held fuel cs y} h hw => by
    obtain ⟨xs, n, _, rfl, hl, hlen, hf⟩ := DataW.trod_struct ht h
    obtain ⟨x, hx⟩ := F.opens (enc := enc) (w := w) (base := base) (spare := spare) (held := held) (n := n) (cs0 := cs) (ys := xs) (fun i f hi => hf i f (by simpa using hi)) (by simpa using hlen) (fun i f y hi hy q hq => hw q (by
      simp only [DataW.weights, ht]
      exact DataW.weights_mem_each (j := i) (t := f.type) (d := y.1) (by rw [List.getElem?_map, hi]; rfl) (by rw [List.getElem?_map, hy]; rfl) q hq))
    refine ⟨x, ?_⟩
    have : (cs.drop 0).take F.c = cs := by rw [List.drop_zero, List.take_of_length_le (by omega)]
    rw [this] at hx; exact hx

/-- What the row hands a law, argument by argument. -/
theorem LawIn.arg {H : Type} {enc : TypeId × Value → H} {P : Program} {ts : List TypeId} {W : World} {args : List Value} {ds : List (DataW H)} {p : List MemPlace} (h : LawIn enc P ts W args ds p) {j : Nat} {t : TypeId} (ht : ts[j]? = some t) {α : Type} (A : Vw P t α) :
    ∃ v x base, args[j]? = some v ∧ A.rel W v.cells.toList x ∧ Value.okWide P W .any base t v := by
  obtain ⟨hA, ⟨base, hval⟩, hsz, -⟩ := h
  have hw : ∀ (j : Nat) (t : TypeId) (d : DataW H), ts[j]? = some t → ds[j]? = some d → ∀ n ∈ d.weights P t, n ≤ reachBytes := fun j t d h1 h2 n hn => by
    have := List.all_eq_true.1 hsz _ (DataW.weights_mem_each h1 h2 n hn)
    simpa using this
  have key : ∀ (ts : List TypeId) (vs : List Value) (ds : List (DataW H)) (p : List MemPlace), DataW.TrodAll enc P W 0 (fun _ => true) true ts vs ds p → ∀ (j : Nat) (t : TypeId), ts[j]? = some t → ∃ (v : Value) (d : DataW H) (q : List MemPlace), vs[j]? = some v ∧ ds[j]? = some d ∧ DataW.Trod enc P W 0 (fun _ => true) true t v d q := by
    intro ts
    induction ts with
    | nil => intro vs ds p _ j t ht; simp at ht
    | cons t0 ts ih =>
      intro vs ds p hA j t ht
      obtain ⟨v0, vs0, d0, ds0, p0, q0, rfl, rfl, rfl, h0, r0⟩ := trodAll_cons hA
      cases j with
      | zero => simp at ht; subst ht; exact ⟨v0, d0, p0, rfl, rfl, h0⟩
      | succ j => obtain ⟨v, d, q, h1, h2, h3⟩ := ih vs0 ds0 q0 r0 j t (by simpa using ht); exact ⟨v, d, q, by simpa using h1, by simpa using h2, h3⟩
  obtain ⟨v, d, q, h1, h2, fuel, h3⟩ := key ts args ds p hA j t ht
  obtain ⟨x, hx⟩ := A.opens h3 (hw j t d ht h2)
  exact ⟨v, x, base, h1, hx, hval j t v ht h1⟩
theorem LawIn.len {H : Type} {enc : TypeId × Value → H} {P : Program} {ts : List TypeId} {W : World} {args : List Value} {ds : List (DataW H)} {p : List MemPlace} (h : LawIn enc P ts W args ds p) : args.length = ts.length := (trodAll_length h.trod).1
theorem arg_int {P : Program} {W : World} {base : Nat} {t : TypeId} {k : IntKind} {ht : P.underlying t = some (.int k)} {hc : P.cellsOf t = 1} {v : Value} {x : Int} (h : (vInt k ht hc).rel W v.cells.toList x) (hv : Value.okWide P W .any base t v) : v = .int k x ∧ (Lit.int k x).wf = true := by
  obtain ⟨n, rfl⟩ := okWide_int ht hv
  obtain ⟨h1, h2⟩ := h
  simp [Value.cells] at h1
  exact ⟨by rw [h1], h2⟩
theorem arg_bool {P : Program} {W : World} {base : Nat} {t : TypeId} {ht : P.underlying t = some .bool} {hc : P.cellsOf t = 1} {v : Value} {x : Bool} (h : (vBool ht hc).rel W v.cells.toList x) (hv : Value.okWide P W .any base t v) : v = .bool x := by
  obtain ⟨n, rfl⟩ := okWide_bool ht hv
  have h1 : (Value.bool n).cells.toList = [.bool x] := h
  simp [Value.cells] at h1
  rw [h1]
theorem arg_str {P : Program} {W : World} {base : Nat} {t : TypeId} {ht : P.underlying t = some .string} {hc : P.cellsOf t = 1} {v : Value} {x : Bs} (h : (vStr ht hc).rel W v.cells.toList x) (hv : Value.okWide P W .any base t v) : v = stv x ∧ x.length ≤ reachBytes := by
  obtain ⟨n, rfl⟩ := okWide_string ht hv
  obtain ⟨h1, h2⟩ := h
  simp [Value.cells] at h1
  exact ⟨by rw [stv, h1], h2⟩
theorem arg_slice {P : Program} {W : World} {base : Nat} {t e : TypeId} {α : Type} {ht : P.underlying t = some (.slice e)} {hc : P.cellsOf t = 1} {A : Vw P e α} {v : Value} {x : List α} (h : (vSlice ht hc A).rel W v.cells.toList x) (hv : Value.okWide P W .any base t v) : SliceAs A W v x := by
  obtain ⟨a, n, c, rfl⟩ := okWide_slice ht hv
  obtain ⟨u, h1, h2⟩ := h
  simp [Value.cells] at h1
  rw [h1]; exact h2
theorem arg_struct {P : Program} {W : World} {base : Nat} {t : TypeId} {fs : Array Field} {α : Type} {ht : P.underlying t = some (.struct fs)} {F : Fv P fs.toList 0 α} {hc : P.cellsOf t = F.c} {v : Value} {x : α} (h : (vStruct ht F hc).rel W v.cells.toList x) (hv : Value.okWide P W .any base t v) : ∃ cs, v = .agg cs ∧ F.rel W cs.toList x := by
  obtain ⟨cs, rfl, _⟩ := okWide_struct ht hv
  exact ⟨cs, rfl, h⟩

end Go.Al
