/- The laws where what they read is of small bulk. -/
import Derived.Test.YthbngnlmgplijaaGreatDoorAlView
import Derived.Test.YthbngnlmgplijaaGreatDoorRows
import Derived.Deep.CondSized
import Derived.JoinedCond
namespace Go.Al
set_option linter.unusedVariables false
set_option linter.unusedSimpArgs false
set_option linter.unusedSectionVars false
open Go.ChangeShapes Go.WideShapes Go.ChangeAt Go.RowKit
open Go.Proofs.YthbngnlmgplijaaGreatDoor.Rows (uptoBulk uptoBulkAll uptoBulkEntries uptoBulkEntry uptoSmall)

theorem law_upto {H : Type} {enc : TypeId × Value → H} {C : Checked} {os : Os} {f : FuncId} {fn : Func} {s : OpenSpec} {k : (H : Type) → List (DataW H) → Bool} {F : Stop.Interp} {conds : List PathCond} {tb : TypeId} (hk : s.cond = some k) (own : ownKnob C.prog.godebug = none) (started : os.Started) (noInit : C.prog.inits.idxOf? f = none) (hfn : C.prog.funcs[f]? = some fn)
    (hlaid : laidOutB C.prog = true)
    (witness : ∃ (w : World) (tape : Tape) (i : Input), w.os = os ∧ (w.forCall tape i).Shaped C.prog ∧ i.vars = [] ∧ Input.okWide C.prog (w.forCall tape i) .any w.heap.size f i ∧
      s.pre6 enc C.prog fn conds false (w.forCall tape i).memory i.args ∧ ({} : Assume).holds C.prog (lone (Frame.enter C.prog f i.args .normal) [] (w.forCall tape i)))
    (hres : fn.resultTypes = #[tb]) (hbool : C.prog.underlying tb = some .bool) (hvars : s.vars = [])
    (hrow : ∀ t ∈ fn.params.toList, C.prog.readableRec t = true ∧ t < C.prog.types.size)
    (hs : ∀ ds : List (DataW H), ds.length = fn.params.toList.length → s.fn F H ds = { results := [.lit (.bool true)], args := ds, vars := [] })
    (law : ∀ (W : World) (args : List Value) (ds : List (DataW H)) (p : List MemPlace), LawIn enc C.prog fn.params.toList W args ds p → k H ds = true → Cl C.prog f args W fun v w' => v = .bool true ∧ Fm (fun _ => False) W w') :
    ReturnsInHanded {} C os f .any (s.pre6 enc C.prog fn conds false) ((s.at F).post enc C.prog fn false true false false) := by
  refine returnsInHanded_of_cond_sized hk own started noInit hfn witness ?_
  intro W base args ds gs before hval hW hcnd hkk hsz _
  have hW' := hW
  obtain ⟨p, q, hA, hV, rfl, hfz, hnd⟩ := hW
  rw [hvars] at hV
  obtain ⟨rfl, rfl⟩ := trodVars_none hV
  have hty : s.bare.plain.varTypes C.prog = [] := by simp [DataSpec.varTypes, ChangeSpec.plain, OpenSpec.bare, hvars]
  simp only [hty, List.append_nil] at hsz
  rw [List.append_nil] at hkk
  have hlt : ∀ x ∈ p, x.block < W.heap.size := fun x hx => hW'.lt x (by simp [hx])
  have hlen := (trodAll_length hA).2
  refine (cl_true (law W args.toList ds p ⟨hA, ⟨base, fun j t v hj hv => hval j t v (by simpa using hj) (by simpa using hv)⟩, hsz, hlt⟩ hkk)).mono fun e W' ⟨he, hb⟩ => ?_
  subst he
  refine ⟨_, rfl, ds, [], p ++ [], [], p, [], hW', ?_, ?_, ?_, hb.frame _, fun h => by cases h⟩
  · show DataW.TrodAll _ _ _ _ _ _ _ _ (s.fn F H (ds ++ [])).results _
    rw [List.append_nil, hs ds hlen, hres]
    exact trodAll_cons_mk (shut_bool hbool _) trodAll_mk0
  · show DataW.TrodAll _ _ _ _ _ _ _ _ (s.fn F H (ds ++ [])).args _
    rw [List.append_nil, hs ds hlen]
    exact trodAll_below hlaid hb hrow hA hlt
  · show DataW.TrodVars _ _ _ _ s.vars (s.fn F H (ds ++ [])).vars _
    rw [List.append_nil, hs ds hlen, hvars]; trivial


/-! ### Views, with how much is read -/
def Szd {P : Program} {t : TypeId} {α : Type} (A : Vw P t α) (sz : α → Nat) : Prop := ∀ {H : Type} {enc : TypeId × Value → H} {w : World} {base : Nat} {spare : Nat → Bool} {held : Bool} {fuel : Nat} {cs : List Value} {y : DataW H × List MemPlace},
    DataW.trod enc P w base spare held fuel t cs = some y → (∀ n ∈ y.1.weights P t, n ≤ reachBytes) → ∃ x, A.rel w cs x ∧ sz x ≤ uptoBulk y.1
theorem bulk_pos {H : Type} (d : DataW H) : 1 ≤ uptoBulk d := by
  cases d with
  | lit l => cases l <;> simp [uptoBulk]
  | _ => simp [uptoBulk]
theorem Szd.one {P : Program} {t : TypeId} {α : Type} (A : Vw P t α) : Szd A (fun _ => 1) := fun h hw => by
  obtain ⟨x, hx⟩ := A.opens h hw
  exact ⟨x, hx, bulk_pos _⟩
theorem bulkAll_map {H : Type} (D : Nat → DataW H) (f : Nat → Nat) : ∀ (n : Nat), (∀ i, i < n → f i ≤ uptoBulk (D i)) → ((List.range n).map f).sum ≤ uptoBulkAll ((List.range n).map D) := by
  have app : ∀ (l m : List (DataW H)), uptoBulkAll (l ++ m) = uptoBulkAll l + uptoBulkAll m := by
    intro l m
    induction l with
    | nil => simp [uptoBulkAll]
    | cons d l ih => simp only [List.cons_append, uptoBulkAll, ih]; omega
  intro n
  induction n with
  | zero => intro _; simp [uptoBulkAll]
  | succ n ih =>
    intro h
    rw [List.range_succ, List.map_append, List.map_append, List.sum_append, app]
    have h1 := ih fun i hi => h i (by omega)
    have h2 := h n (by omega)
    simp only [List.map_cons, List.map_nil, List.sum_cons, List.sum_nil, uptoBulkAll]
    omega
theorem Szd.slice {P : Program} {t e : TypeId} {α : Type} {ht : P.underlying t = some (.slice e)} {hc : P.cellsOf t = 1} {A : Vw P e α} {sz : α → Nat} (hA : Szd A sz) : Szd (vSlice ht hc A) (fun xs => (xs.map sz).sum + 1) := fun {H enc w base spare held fuel cs y} h hw => by
  rcases Deep.open_slice ht h with ⟨rfl, rfl⟩ | ⟨a, len, cap, m, n, D, Pl, rfl, _, hl, hcap, hm, rfl, hx⟩
  · exact ⟨[], ⟨_, rfl, ⟨none, 0, rfl, by simp, by simp [maxLen], fun _ => ⟨rfl, rfl⟩, fun i x hi => by simp at hi⟩, by simp⟩, by simpa using bulk_pos _⟩
  · have hlm : len ≤ m := by rw [hm]; split <;> omega
    have hwt : ∀ i, i < len → ∀ q ∈ (D i).weights P e, q ≤ reachBytes := fun i hi q hq => hw q (by
      simp only [DataW.weights, ht, List.mem_cons, List.mem_append]
      exact .inr (.inl (weightsAll_mem hq (List.mem_map.2 ⟨i, by simpa using hi, rfl⟩))))
    have hsm : len * P.bytesOf e ≤ reachBytes := by
      have := hw ((((List.range len).map D).length + ((List.range (m - len)).map fun j => D (len + j)).length) * P.bytesOf e) (by simp [DataW.weights, ht])
      refine Nat.le_trans (Nat.mul_le_mul_right _ ?_) this
      simp
    have key : ∀ i, i < len → ∃ x : α × List Value, (A.rel w x.2 x.1 ∧ ∀ j, j < P.cellsOf e → w.cell? (a.add (i * P.cellsOf e + j)) = x.2[j]?) ∧ sz x.1 ≤ uptoBulk (D i) := by
      intro i hi
      obtain ⟨cs', h1, h2⟩ := hx i (by omega)
      obtain ⟨_, hlen, hat⟩ := World.cells?_some h1
      obtain ⟨x, hxr, hxs⟩ := hA h2 (hwt i hi)
      exact ⟨(x, cs'), ⟨hxr, fun j hj => by rw [← add_add, hat j hj]⟩, hxs⟩
    refine ⟨List.ofFn (n := len) (fun i => (Classical.choose (key i i.2)).1), ⟨_, rfl, ⟨some a, cap, by simp, by simpa using hl, hcap, fun e => by simp at e, fun i x hi => ?_⟩, by simpa using hsm⟩, ?_⟩
    · rw [List.getElem?_ofFn] at hi
      split at hi
      · rename_i hi1
        simp only [Option.some.injEq] at hi
        subst hi
        have hk := (Classical.choose_spec (key i hi1)).1
        exact ⟨a, _, rfl, hk.1, hk.2⟩
      · cases hi
    · have h1 := bulkAll_map D (fun i => if hi : i < len then sz (Classical.choose (key i hi)).1 else 0) len (fun i hi => by
        show (if hi : i < len then _ else 0) ≤ _
        rw [dif_pos hi]; exact (Classical.choose_spec (key i hi)).2)
      have h2 : (List.ofFn (n := len) (fun i => (Classical.choose (key i i.2)).1)).map sz = (List.range len).map (fun i => if hi : i < len then sz (Classical.choose (key i hi)).1 else 0) := by
        apply List.ext_getElem?
        intro j
        rw [List.getElem?_map, List.getElem?_map, List.getElem?_ofFn]
        by_cases hj : j < len
        · rw [List.getElem?_range hj]; simp [hj]
        · rw [List.getElem?_eq_none (by simpa using hj)]; simp [hj]
      show (_ : List Nat).sum + 1 ≤ uptoBulk (.slice _ _)
      rw [h2]
      simp only [uptoBulk]
      omega
def SzF {P : Program} {fs : List Field} {o : Nat} {α : Type} (F : Fv P fs o α) (sz : α → Nat) : Prop := ∀ {H : Type} {enc : TypeId × Value → H} {w : World} {base : Nat} {spare : Nat → Bool} {held : Bool} {n : Nat} {cs0 : List Value} {ys : List (DataW H × List MemPlace)},
    (∀ (i : Nat) (f : Field), fs[i]? = some f → DataW.trod enc P w base spare held n f.type ((cs0.drop f.offset).take (P.cellsOf f.type)) = ys[i]?) → ys.length = fs.length →
    (∀ (i : Nat) (f : Field) (y : DataW H × List MemPlace), fs[i]? = some f → ys[i]? = some y → ∀ n ∈ y.1.weights P f.type, n ≤ reachBytes) → ∃ x, F.rel w ((cs0.drop o).take F.c) x ∧ sz x ≤ uptoBulkAll (ys.map (·.1))
theorem SzF.nil {P : Program} {o : Nat} : SzF (fvNil (P := P) (o := o)) (fun _ => 0) := fun {H enc w base spare held n cs0 ys} h hl hw => ⟨(), by
  show List.take 0 _ = []
  simp, Nat.zero_le _⟩
theorem SzF.cons {P : Program} {f : Field} {fs : List Field} {o : Nat} {α β : Type} {hf : f.offset = o} {n : Nat} {hn : P.cellsOf f.type = n} {A : Vw P f.type α} {B : Fv P fs (o + n) β} {sa : α → Nat} {sb : β → Nat} (hA : Szd A sa) (hB : SzF B sb) : SzF (fvCons hf n hn A B) (fun x => sa x.1 + sb x.2) := fun {H enc w base spare held m cs0 ys} h hl hw => by
  have h0 := h 0 f rfl
  cases ys with
  | nil => simp at hl
  | cons y ys =>
    obtain ⟨x, hx, hs⟩ := hA h0 (hw 0 f y rfl rfl)
    obtain ⟨x', hx', hs'⟩ := hB (enc := enc) (w := w) (base := base) (spare := spare) (held := held) (n := m) (cs0 := cs0) (ys := ys) (fun i g hg => by have := h (i + 1) g (by simpa using hg); simpa using this) (by simpa using hl) (fun i g y' hg hy' => hw (i + 1) g y' (by simpa using hg) (by simpa using hy'))
    refine ⟨(x, x'), ⟨_, _, ?_, hx, hx'⟩, ?_⟩
    · rw [hf, hn]
      show List.take (n + B.c) _ = _
      rw [List.take_add, List.drop_drop]
    · simp only [List.map_cons, uptoBulkAll]
      omega
theorem Szd.struct {P : Program} {t : TypeId} {fs : Array Field} {α : Type} {ht : P.underlying t = some (.struct fs)} {F : Fv P fs.toList 0 α} {hc : P.cellsOf t = F.c} {sz : α → Nat} (hF : SzF F sz) : Szd (vStruct ht F hc) sz := fun {H enc w base spare held fuel cs y} h hw => by
  obtain ⟨xs, n, _, rfl, hl, hlen, hf⟩ := DataW.trod_struct ht h
  obtain ⟨x, hx, hs⟩ := hF (enc := enc) (w := w) (base := base) (spare := spare) (held := held) (n := n) (cs0 := cs) (ys := xs) (fun i f hi => hf i f (by simpa using hi)) (by simpa using hlen) (fun i f y hi hy q hq => hw q (by
    simp only [DataW.weights, ht]
    exact DataW.weights_mem_each (j := i) (t := f.type) (d := y.1) (by rw [List.getElem?_map, hi]; rfl) (by rw [List.getElem?_map, hy]; rfl) q hq))
  refine ⟨x, ?_, ?_⟩
  · have : (cs.drop 0).take F.c = cs := by rw [List.drop_zero, List.take_of_length_le (by omega)]
    rw [this] at hx; exact hx
  · simp only [uptoBulk]; omega

theorem bulkAll_mem {H : Type} : ∀ {l : List (DataW H)} {i : Nat} {d : DataW H}, l[i]? = some d → uptoBulk d ≤ uptoBulkAll l
  | [], i, d, h => by simp at h
  | x :: l, 0, d, h => by simp at h; subst h; simp only [uptoBulkAll]; omega
  | x :: l, i + 1, d, h => by have := bulkAll_mem (l := l) (i := i) (d := d) (by simpa using h); simp only [uptoBulkAll]; omega

/-- What the row hands a law, argument by argument, with how much it is. -/
theorem LawIn.argU {H : Type} {enc : TypeId × Value → H} {P : Program} {ts : List TypeId} {W : World} {args : List Value} {ds : List (DataW H)} {p : List MemPlace} (h : LawIn enc P ts W args ds p) (hk : uptoSmall H ds = true) {j : Nat} {t : TypeId} (ht : ts[j]? = some t) {α : Type} (A : Vw P t α) {sz : α → Nat} (hA' : Szd A sz) :
    ∃ v x base, args[j]? = some v ∧ A.rel W v.cells.toList x ∧ Value.okWide P W .any base t v ∧ sz x ≤ 1048576 := by
  obtain ⟨hA, ⟨base, hval⟩, hsz, -⟩ := h
  have hk' : uptoBulkAll ds ≤ 1048576 := by unfold uptoSmall at hk; exact of_decide_eq_true hk
  have hw : ∀ (j : Nat) (t : TypeId) (d : DataW H), ts[j]? = some t → ds[j]? = some d → ∀ n ∈ d.weights P t, n ≤ reachBytes := fun j t d h1 h2 n hn => by
    have := List.all_eq_true.1 hsz _ (DataW.weights_mem_each h1 h2 n hn)
    simpa using this
  have key : ∀ (ts : List TypeId) (vs : List Value) (ds : List (DataW H)) (p : List MemPlace), DataW.TrodAll enc P W 0 (fun _ => true) true ts vs ds p → ∀ (j : Nat) (t : TypeId), ts[j]? = some t → ∃ (v : Value) (d : DataW H) (q : List MemPlace), vs[j]? = some v ∧ ds[j]? = some d ∧ DataW.Trod enc P W 0 (fun _ => true) true t v d q := by
    intro ts
    induction ts with
    | nil => intro vs ds p _ j t ht; simp at ht
    | cons t0 ts ih =>
      intro vs ds p hA j t ht
      obtain ⟨v0, vs0, d0, ds0, p0, q0, rfl, rfl, rfl, h0, r0⟩ := trodAll_cons hA
      cases j with
      | zero => simp at ht; subst ht; exact ⟨v0, d0, p0, rfl, rfl, h0⟩
      | succ j => obtain ⟨v, d, q, h1, h2, h3⟩ := ih vs0 ds0 q0 r0 j t (by simpa using ht); exact ⟨v, d, q, by simpa using h1, by simpa using h2, h3⟩
  obtain ⟨v, d, q, h1, h2, fuel, h3⟩ := key ts args ds p hA j t ht
  obtain ⟨x, hx, hs⟩ := hA' h3 (hw j t d ht h2)
  have := bulkAll_mem h2
  exact ⟨v, x, base, h1, hx, hval j t v ht h1, by simp only at hs; omega⟩

end Go.Al
