/- Laid for one claim by slim.py out of: parts. -/
import Derived.Test.YthbngnlmgplijaaGreatDoorWplE
set_option maxRecDepth 100000
set_option maxHeartbeats 0
set_option linter.unusedVariables false
set_option linter.unusedSimpArgs false
set_option linter.unusedSectionVars false
open Go.Proofs.Tryz (prog)
namespace Go.Proofs.YthbngnlmgplijaaGreatDoor
open Go.Al Go.Proofs
theorem wj (o1 o2 : Operand) (p q : Int × Int) (w : World) : (do eqGuard .neq 120 o1 o2 (.agg (pc2 p).toArray) (.agg (pc2 q).toArray); binOp .neq 120 (.agg (pc2 p).toArray) (.agg (pc2 q).toArray) : Sem Value).run prog w = .ok (.bool (!decide (p = q))) w := by
 have hS : prog.underlying 120 = some (.struct (prog.fieldsOf 120)) := by kernel_rfl
 have hp : prog.stoodInHeld 120 = false := by kernel_rfl
 have hm : prog.eqGuardType prog.depth 120 = false := by kernel_rfl
 have u3 := Tryz.underlying3
 rw [Sem.run_bind, run_eqGuard_agg w .neq 120 o1 o2 _ _ hm, Result.andThen_ok, run_neq_struct, show (10000 : Nat) = 9999 + 1 from rfl, run_equalIn_agg w 9999 120 _ _ hS hp]
 have a3 := Tryz.isAgg3
 have z3 := Tryz.sizeOf3
 simp only [Program.fieldsOf, Tryz.underlying120, pc2]
 obtain ⟨p1, p2⟩ := p
 obtain ⟨q1, q2⟩ := q
 simp only
 go_simp
 by_cases h1 : p1 = q1 <;> by_cases h2 : p2 = q2 <;> simp [h1, h2]
theorem wg (o1 o2 : Operand) (p q : Int × Int) (w : World) : (do eqGuard .neq 122 o1 o2 (.agg (pc2 p).toArray) (.agg (pc2 q).toArray); binOp .neq 122 (.agg (pc2 p).toArray) (.agg (pc2 q).toArray) : Sem Value).run prog w = .ok (.bool (!decide (p = q))) w := by
 have hS : prog.underlying 122 = some (.struct (prog.fieldsOf 122)) := by kernel_rfl
 have hp : prog.stoodInHeld 122 = false := by kernel_rfl
 have hm : prog.eqGuardType prog.depth 122 = false := by kernel_rfl
 have u3 := Tryz.underlying3
 rw [Sem.run_bind, run_eqGuard_agg w .neq 122 o1 o2 _ _ hm, Result.andThen_ok, run_neq_struct, show (10000 : Nat) = 9999 + 1 from rfl, run_equalIn_agg w 9999 122 _ _ hS hp]
 have a3 := Tryz.isAgg3
 have z3 := Tryz.sizeOf3
 simp only [Program.fieldsOf, Tryz.underlying122, pc2]
 obtain ⟨p1, p2⟩ := p
 obtain ⟨q1, q2⟩ := q
 simp only
 go_simp
 by_cases h1 : p1 = q1 <;> by_cases h2 : p2 = q2 <;> simp [h1, h2]
theorem fw {α : Type} {A B : List α} {i : Nat} {x y : α} (h : A.take i = B.take i) (ha : A[i]? = some x) (hb : B[i]? = some y) (e : x = y) : A.take (i + 1) = B.take (i + 1) := by
 rw [List.take_add_one, List.take_add_one, h, ha, hb, e]
theorem ww {α : Type} [DecidableEq α] {A B : List α} {i : Nat} {x y : α} (ha : A[i]? = some x) (hb : B[i]? = some y) (e : x ≠ y) : decide (A = B) = false := by
 rw [decide_eq_false_iff_not]
 rintro rfl
 rw [ha] at hb
 exact e (Option.some.inj hb)
theorem ut {α : Type} [DecidableEq α] {A B : List α} (h : A.length ≠ B.length) : decide (A = B) = false := by
 rw [decide_eq_false_iff_not]
 rintro rfl
 exact h rfl
theorem mQ {α : Type} [DecidableEq α] {A B : List α} (h : A.length = B.length) (ht : A.take A.length = B.take A.length) : decide (A = B) = true := by
 rw [decide_eq_true_eq]
 rw [List.take_length, h, List.take_length] at ht
 exact ht
theorem dp {α : Type} {a b : Rc} (f : Rc → α) (h : f a ≠ f b) : decide (a = b) = false := by
 rw [decide_eq_false_iff_not]
 rintro rfl
 exact h rfl
end Go.Proofs.YthbngnlmgplijaaGreatDoor
namespace Go.Al
open Go.ChangeShapes Go.WideShapes Go.ChangeAt Go.RowKit
open Go.Proofs.YthbngnlmgplijaaGreatDoor.Rows (uptoBulk uptoBulkAll uptoBulkEntries uptoBulkEntry uptoSmall)
def Szd {P : Program} {t : TypeId} {α : Type} (A : Vw P t α) (sz : α → Nat) : Prop := ∀ {H : Type} {enc : TypeId × Value → H} {w : World} {base : Nat} {spare : Nat → Bool} {held : Bool} {fuel : Nat} {cs : List Value} {y : DataW H × List MemPlace},
  DataW.trod enc P w base spare held fuel t cs = some y → (∀ n ∈ y.1.weights P t, n ≤ reachBytes) → ∃ x, A.rel w cs x ∧ sz x ≤ uptoBulk y.1
theorem nN {H : Type} (d : DataW H) : 1 ≤ uptoBulk d := by
 cases d with
 | lit l => cases l <;> simp [uptoBulk]
 | _ => simp [uptoBulk]
theorem Szd.one {P : Program} {t : TypeId} {α : Type} (A : Vw P t α) : Szd A (fun _ => 1) := fun h hw => by
 obtain ⟨x, hx⟩ := A.opens h hw
 exact ⟨x, hx, nN _⟩
theorem mt {H : Type} (D : Nat → DataW H) (f : Nat → Nat) : ∀ (n : Nat), (∀ i, i < n → f i ≤ uptoBulk (D i)) → ((List.range n).map f).sum ≤ uptoBulkAll ((List.range n).map D) := by
 have app : ∀ (l m : List (DataW H)), uptoBulkAll (l ++ m) = uptoBulkAll l + uptoBulkAll m := by
  intro l m
  induction l with
  | nil => simp [uptoBulkAll]
  | cons d l ih => simp only [List.cons_append, uptoBulkAll, ih]; omega
 intro n
 induction n with
 | zero => intro _; simp [uptoBulkAll]
 | succ n ih =>
  intro h
  rw [List.range_succ, List.map_append, List.map_append, List.sum_append, app]
  have h1 := ih fun i hi => h i (by omega)
  have h2 := h n (by omega)
  simp only [List.map_cons, List.map_nil, List.sum_cons, List.sum_nil, uptoBulkAll]
  omega
theorem Szd.slice {P : Program} {t e : TypeId} {α : Type} {ht : P.underlying t = some (.slice e)} {hc : P.cellsOf t = 1} {A : Vw P e α} {sz : α → Nat} (hA : Szd A sz) : Szd (fZ ht hc A) (fun xs => (xs.map sz).sum + 1) := fun {H enc w base spare held fuel cs y} h hw => by
 rcases Deep.open_slice ht h with ⟨rfl, rfl⟩ | ⟨a, len, cap, m, n, D, Pl, rfl, _, hl, hcap, hm, rfl, hx⟩
 ·exact ⟨[], ⟨_, rfl, ⟨none, 0, rfl, by simp, by simp [maxLen], fun _ => ⟨rfl, rfl⟩, fun i x hi => by simp at hi⟩, by simp⟩, by simpa using nN _⟩
 ·have hlm : len ≤ m := by rw [hm]; split <;> omega
  have hwt : ∀ i, i < len → ∀ q ∈ (D i).weights P e, q ≤ reachBytes := fun i hi q hq => hw q (by
   simp only [DataW.weights, ht, List.mem_cons, List.mem_append]
   exact .inr (.inl (dk hq (List.mem_map.2 ⟨i, by simpa using hi, rfl⟩))))
  have hsm : len * P.bytesOf e ≤ reachBytes := by
   have := hw ((((List.range len).map D).length + ((List.range (m - len)).map fun j => D (len + j)).length) * P.bytesOf e) (by simp [DataW.weights, ht])
   refine Nat.le_trans (Nat.mul_le_mul_right _ ?_) this
   simp
  have key : ∀ i, i < len → ∃ x : α × List Value, (A.rel w x.2 x.1 ∧ ∀ j, j < P.cellsOf e → w.cell? (a.add (i * P.cellsOf e + j)) = x.2[j]?) ∧ sz x.1 ≤ uptoBulk (D i) := by
   intro i hi
   obtain ⟨cs', h1, h2⟩ := hx i (by omega)
   obtain ⟨_, hlen, hat⟩ := World.cells?_some h1
   obtain ⟨x, hxr, hxs⟩ := hA h2 (hwt i hi)
   exact ⟨(x, cs'), ⟨hxr, fun j hj => by rw [← dT, hat j hj]⟩, hxs⟩
  refine ⟨List.ofFn (n := len) (fun i => (Classical.choose (key i i.2)).1), ⟨_, rfl, ⟨some a, cap, by simp, by simpa using hl, hcap, fun e => by simp at e, fun i x hi => ?_⟩, by simpa using hsm⟩, ?_⟩
  ·rw [List.getElem?_ofFn] at hi
   split at hi
   ·rename_i hi1
    simp only [Option.some.injEq] at hi
    subst hi
    have hk := (Classical.choose_spec (key i hi1)).1
    exact ⟨a, _, rfl, hk.1, hk.2⟩
   ·cases hi
  ·have h1 := mt D (fun i => if hi : i < len then sz (Classical.choose (key i hi)).1 else 0) len (fun i hi => by
    show (if hi : i < len then _ else 0) ≤ _
    rw [dif_pos hi]; exact (Classical.choose_spec (key i hi)).2)
   have h2 : (List.ofFn (n := len) (fun i => (Classical.choose (key i i.2)).1)).map sz = (List.range len).map (fun i => if hi : i < len then sz (Classical.choose (key i hi)).1 else 0) := by
    apply List.ext_getElem?
    intro j
    rw [List.getElem?_map, List.getElem?_map, List.getElem?_ofFn]
    by_cases hj : j < len
    ·rw [List.getElem?_range hj]; simp [hj]
    ·rw [List.getElem?_eq_none (by simpa using hj)]; simp [hj]
   show (_ : List Nat).sum + 1 ≤ uptoBulk (.slice _ _)
   rw [h2]
   simp only [uptoBulk]
   omega
def SzF {P : Program} {fs : List Field} {o : Nat} {α : Type} (F : Fv P fs o α) (sz : α → Nat) : Prop := ∀ {H : Type} {enc : TypeId × Value → H} {w : World} {base : Nat} {spare : Nat → Bool} {held : Bool} {n : Nat} {cs0 : List Value} {ys : List (DataW H × List MemPlace)},
  (∀ (i : Nat) (f : Field), fs[i]? = some f → DataW.trod enc P w base spare held n f.type ((cs0.drop f.offset).take (P.cellsOf f.type)) = ys[i]?) → ys.length = fs.length →
  (∀ (i : Nat) (f : Field) (y : DataW H × List MemPlace), fs[i]? = some f → ys[i]? = some y → ∀ n ∈ y.1.weights P f.type, n ≤ reachBytes) → ∃ x, F.rel w ((cs0.drop o).take F.c) x ∧ sz x ≤ uptoBulkAll (ys.map (·.1))
theorem SzF.nil {P : Program} {o : Nat} : SzF (kr (P := P) (o := o)) (fun _ => 0) := fun {H enc w base spare held n cs0 ys} h hl hw => ⟨(), by
 show List.take 0 _ = []
 simp, Nat.zero_le _⟩
theorem SzF.cons {P : Program} {f : Field} {fs : List Field} {o : Nat} {α β : Type} {hf : f.offset = o} {n : Nat} {hn : P.cellsOf f.type = n} {A : Vw P f.type α} {B : Fv P fs (o + n) β} {sa : α → Nat} {sb : β → Nat} (hA : Szd A sa) (hB : SzF B sb) : SzF (aL hf n hn A B) (fun x => sa x.1 + sb x.2) := fun {H enc w base spare held m cs0 ys} h hl hw => by
 have h0 := h 0 f rfl
 cases ys with
 | nil => simp at hl
 | cons y ys =>
  obtain ⟨x, hx, hs⟩ := hA h0 (hw 0 f y rfl rfl)
  obtain ⟨x', hx', hs'⟩ := hB (enc := enc) (w := w) (base := base) (spare := spare) (held := held) (n := m) (cs0 := cs0) (ys := ys) (fun i g hg => by have := h (i + 1) g (by simpa using hg); simpa using this) (by simpa using hl) (fun i g y' hg hy' => hw (i + 1) g y' (by simpa using hg) (by simpa using hy'))
  refine ⟨(x, x'), ⟨_, _, ?_, hx, hx'⟩, ?_⟩
  ·rw [hf, hn]
   show List.take (n + B.c) _ = _
   rw [List.take_add, List.drop_drop]
  ·simp only [List.map_cons, uptoBulkAll]
   omega
theorem Szd.struct {P : Program} {t : TypeId} {fs : Array Field} {α : Type} {ht : P.underlying t = some (.struct fs)} {F : Fv P fs.toList 0 α} {hc : P.cellsOf t = F.c} {sz : α → Nat} (hF : SzF F sz) : Szd (dG ht F hc) sz := fun {H enc w base spare held fuel cs y} h hw => by
 obtain ⟨xs, n, _, rfl, hl, hlen, hf⟩ := DataW.trod_struct ht h
 obtain ⟨x, hx, hs⟩ := hF (enc := enc) (w := w) (base := base) (spare := spare) (held := held) (n := n) (cs0 := cs) (ys := xs) (fun i f hi => hf i f (by simpa using hi)) (by simpa using hlen) (fun i f y hi hy q hq => hw q (by
  simp only [DataW.weights, ht]
  exact DataW.weights_mem_each (j := i) (t := f.type) (d := y.1) (by rw [List.getElem?_map, hi]; rfl) (by rw [List.getElem?_map, hy]; rfl) q hq))
 refine ⟨x, ?_, ?_⟩
 ·have : (cs.drop 0).take F.c = cs := by rw [List.drop_zero, List.take_of_length_le (by omega)]
  rw [this] at hx; exact hx
 ·simp only [uptoBulk]; omega
theorem gN {H : Type} : ∀ {l : List (DataW H)} {i : Nat} {d : DataW H}, l[i]? = some d → uptoBulk d ≤ uptoBulkAll l
 | [], i, d, h => by simp at h
 | x :: l, 0, d, h => by simp at h; subst h; simp only [uptoBulkAll]; omega
 | x :: l, i + 1, d, h => by have := gN (l := l) (i := i) (d := d) (by simpa using h); simp only [uptoBulkAll]; omega
theorem LawIn.argU {H : Type} {enc : TypeId × Value → H} {P : Program} {ts : List TypeId} {W : World} {args : List Value} {ds : List (DataW H)} {p : List MemPlace} (h : LawIn enc P ts W args ds p) (hk : uptoSmall H ds = true) {j : Nat} {t : TypeId} (ht : ts[j]? = some t) {α : Type} (A : Vw P t α) {sz : α → Nat} (hA' : Szd A sz) :
  ∃ v x base, args[j]? = some v ∧ A.rel W v.cells.toList x ∧ Value.okWide P W .any base t v ∧ sz x ≤ 1048576 := by
 obtain ⟨hA, ⟨base, hval⟩, hsz, -⟩ := h
 have hk' : uptoBulkAll ds ≤ 1048576 := by unfold uptoSmall at hk; exact of_decide_eq_true hk
 have hw : ∀ (j : Nat) (t : TypeId) (d : DataW H), ts[j]? = some t → ds[j]? = some d → ∀ n ∈ d.weights P t, n ≤ reachBytes := fun j t d h1 h2 n hn => by
  have := List.all_eq_true.1 hsz _ (DataW.weights_mem_each h1 h2 n hn)
  simpa using this
 have key : ∀ (ts : List TypeId) (vs : List Value) (ds : List (DataW H)) (p : List MemPlace), DataW.TrodAll enc P W 0 (fun _ => true) true ts vs ds p → ∀ (j : Nat) (t : TypeId), ts[j]? = some t → ∃ (v : Value) (d : DataW H) (q : List MemPlace), vs[j]? = some v ∧ ds[j]? = some d ∧ DataW.Trod enc P W 0 (fun _ => true) true t v d q := by
  intro ts
  induction ts with
  | nil => intro vs ds p _ j t ht; simp at ht
  | cons t0 ts ih =>
   intro vs ds p hA j t ht
   obtain ⟨v0, vs0, d0, ds0, p0, q0, rfl, rfl, rfl, h0, r0⟩ := trodAll_cons hA
   cases j with
   | zero => simp at ht; subst ht; exact ⟨v0, d0, p0, rfl, rfl, h0⟩
   | succ j => obtain ⟨v, d, q, h1, h2, h3⟩ := ih vs0 ds0 q0 r0 j t (by simpa using ht); exact ⟨v, d, q, by simpa using h1, by simpa using h2, h3⟩
 obtain ⟨v, d, q, h1, h2, fuel, h3⟩ := key ts args ds p hA j t ht
 obtain ⟨x, hx, hs⟩ := hA' h3 (hw j t d ht h2)
 have := gN h2
 exact ⟨v, x, base, h1, hx, hval j t v ht h1, by simp only at hs; omega⟩
end Go.Al
namespace Go.Proofs.YthbngnlmgplijaaGreatDoor
open Go.Al Go.Proofs
theorem rk {n : Nat} (h : n ≤ 65536) : Lg.Calm (Dk.mk0 n) := ⟨Dk.wf_mk0 h, rfl, rfl⟩
theorem tV (n : Nat) : (Dk.mk0 n).cur.length = n := by simp [Dk.mk0]
theorem rU {d : Dk} (h : Lg.Calm d) {i j : Nat} (hj : 4 ≤ j) (hij : i + j ≤ d.cur.length) : (jf d (i : Int) (j : Int)).2 = 0 ∧ Lg.Calm (jf d (i : Int) (j : Int)).1 ∧ (jf d (i : Int) (j : Int)).1.cur.length = d.cur.length := by
 have hf : dn d (i : Int) (j : Int) = true := by
  unfold dn
  simp only [Bool.and_eq_true, decide_eq_true_eq]
  omega
 have e1 : ((j : Int) * 64).toNat = j * 64 := by omega
 unfold jf
 rw [hf, e1, cond_true]
 obtain ⟨h1, h2, h3⟩ := h.write (a := i) (s := aG (j * 64)) (by rw [Lg.zeros_len']; omega) (by rw [Lg.zeros_len']; omega)
 obtain ⟨g1, g2, g3⟩ := h2.sync
 simp only [h1, decide_true, cond_true]
 exact ⟨g1, g2, by rw [g3, h3]⟩
theorem lw {d : Dk} (h : Lg.Calm d) {a : Nat} (ha : a < d.cur.length) : d.read (a : Int) 1 = (d.cur.getD a [], 0) := by
 unfold Dk.read
 rw [h.on, Dk.has_one ha]
 simp only [cond_false, Bool.not_true, Int.toNat_natCast]
 have e := List.drop_eq_getElem_cons ha
 rw [e, show (1 : Int).toNat = 1 from rfl, List.take_succ_cons, List.take_zero, List.flatten_cons, List.flatten_nil, List.append_nil, List.getD_eq_getElem?_getD, List.getElem?_eq_getElem ha]
 rfl
theorem oZ {L : Lg} {x : Bs} (h : x ∈ L.want) : x.length = 64 ∨ x = [] := by
 have h1 : ∀ x ∈ L.want1, x.length = 64 ∨ x = [] := by
  intro x hx
  rcases lL _ _ _ _ _ hx with h | rfl
  ·rw [(List.mem_replicate.1 h).2]; exact .inl (by simp [Dk.zsec])
  ·exact .inr rfl
 unfold Lg.want at h
 cases hb : decide (L.bytes L.lastB = []) with
 | true => rw [hb] at h; exact h1 x h
 | false =>
  rw [hb, cond_false] at h
  rcases List.mem_or_eq_of_mem_set h with h | rfl
  ·exact h1 x h
  ·exact .inl (Lg.seal_len (Lg.bytes_len L _) _)
theorem dB (frm : Nat) : ∀ (l : List Bs) (i : Nat) (wr : Bool) {d : Dk}, Lg.Calm d → frm + i + l.length ≤ d.cur.length → (∀ x ∈ l, x.length = 64 ∨ x = []) → (cC frm l i wr d).2.2 = 0 ∧ Lg.Calm (cC frm l i wr d).2.1
 | [], i, wr, d, h, _, _ => ⟨rfl, h⟩
 | x :: l, i, wr, d, h, hl, hx => by
  rw [List.length_cons] at hl
  have hx' : ∀ y ∈ l, y.length = 64 ∨ y = [] := fun y hy => hx y (by simp [hy])
  rw [cC]
  cases h0 : decide (x = []) with
  | true => exact dB frm l (i + 1) wr h (by omega) hx'
  | false =>
   rw [decide_eq_false_iff_not] at h0
   have hx64 : x.length = 64 := (hx x (by simp)).resolve_right h0
   rw [lw h (a := frm + i) (by omega)]
   simp only [cond_false, decide_true, cond_true]
   cases decide (d.cur.getD (frm + i) [] = x) with
   | true => exact dB frm l (i + 1) wr h (by omega) hx'
   | false =>
    obtain ⟨h1, h2, h3⟩ := h.write (a := frm + i) (s := x) (by rw [hx64]) (by rw [hx64]; omega)
    simp only [cond_false, h1, decide_true, cond_true]
    exact dB frm l (i + 1) true h2 (by rw [h3]; omega) hx'
theorem qj {L : Lg} {d : Dk} (h : Lg.Calm d) (hl : L.frm + L.n ≤ d.cur.length) : (L.wipe d).2 = 0 := by
 obtain ⟨h1, h2⟩ := dB L.frm L.want 0 false h (by rw [jX]; omega) (fun x hx => oZ hx)
 have e1 : (L.wipeR d).2.2 = 0 := h1
 have e2 : Lg.Calm (L.wipeR d).2.1 := h2
 unfold Lg.wipe
 rw [e1]
 simp only [decide_true, cond_true]
 cases (L.wipeR d).1 with
 | true => exact e2.sync.1
 | false => rfl
def sm : Rc := ⟨0, 0, 0, 8, 0, 1, 0, 0, 0, 0, [], [], [], [], [], []⟩
theorem en {n : Nat} (h : n ≤ 127) : aK n = [UInt8.ofNat n] := by rw [mL, bl h]
theorem mE {k : Nat} (h : k ≤ 127) : cl (atR sm k) = [UInt8.ofNat k, 0, 0, 8, 0, 1, 0, 0, 0, 0, 0, 0, 0, 0, 0, 0] := by
 have e0 : aK 0 = [0] := en (n := 0) (by omega)
 have e1 : aK 1 = [1] := en (n := 1) (by omega)
 have e8 : aK 8 = [8] := en (n := 8) (by omega)
 have e0' : aK ((0 : Nat) : Int) = [0] := e0
 have ek := en h
 simp only [cl, atR, sm, aO, cL, eA, bh, List.length_nil, List.flatMap_cons, List.flatMap_nil, e0, e0', e1, e8, ek]
 rfl
theorem oY (k : Nat) : ∀ m ∈ (atR sm k).imgs, m.2.lsn ≤ 9223372036854775807 := by simp [atR, sm]
theorem sm1 : (rCheck (atR sm 1)).2 = 0 := by
 have : rCheck (atR sm 1) = cJ (atR sm 1) := rfl
 rw [this]
 unfold cJ
 rw [mE (by omega)]
 rfl
theorem ur : (rCheck (atR sm 25)).2 = 0 := by
 have : rCheck (atR sm 25) = cJ (atR sm 25) := rfl
 rw [this]
 unfold cJ
 rw [mE (by omega)]
 rfl
def smE (k : Nat) : Bs := (rEnc (atR sm k)).1
theorem eO {k : Nat} (h : k ≤ 127) (hc : (rCheck (atR sm k)).2 = 0) : (smE k).length = 24 := by
 unfold smE
 rw [lV hc (oY k), mE h]
 simp only [List.length_append, aw, List.length_cons, List.length_nil]
theorem sF : (Lg.new 2 4).append sm = ({ Lg.new 2 4 with kept := smE 1, recs := [(1, atR sm 1)] }, 1, 0) := by
 have ht : (Lg.new 2 4).tail = 1 := rfl
 have hr : (Lg.new 2 4).room = 108 := rfl
 have hl := eO (k := 1) (by omega) sm1
 unfold Lg.append
 rw [ht, hr]
 have e : (rEnc (atR sm 1)).1 = smE 1 := rfl
 rw [e, sm1, hl]
 rfl
theorem tN : ({ Lg.new 2 4 with kept := smE 1, recs := [(1, atR sm 1)] } : Lg).append sm = ({ Lg.new 2 4 with kept := smE 1 ++ smE 25, recs := [(1, atR sm 1), (25, atR sm 25)] }, 25, 0) := by
 have hl := eO (k := 1) (by omega) sm1
 have hl2 := eO (k := 25) (by omega) ur
 have ht : ({ Lg.new 2 4 with kept := smE 1, recs := [(1, atR sm 1)] } : Lg).tail = 25 := by show 1 + (smE 1).length = 25; rw [hl]
 have hr : ({ Lg.new 2 4 with kept := smE 1, recs := [(1, atR sm 1)] } : Lg).room = 84 := by unfold Lg.room; rw [ht]; rfl
 unfold Lg.append
 rw [ht, hr]
 have e : (rEnc (atR sm 25)).1 = smE 25 := rfl
 rw [e, ur, hl2]
 rfl
def smL : Lg := { Lg.new 2 4 with kept := smE 1 ++ smE 25, recs := [(1, atR sm 1), (25, atR sm 25)] }
theorem mr : smL.kept.length = 48 := by
 show (smE 1 ++ smE 25).length = 48
 rw [List.length_append, eO (by omega) sm1, eO (by omega) ur]
theorem jV : smL.tail = 49 := by
 show 1 + smL.kept.length = 49
 rw [mr]
theorem kA : smL.bytes 0 = smE 1 ++ smE 25 := by
 have := mr
 show (smL.kept.drop 0).take 54 = smL.kept
 rw [List.drop_zero, List.take_of_length_le (by omega)]
theorem rT {d : Dk} (h : Lg.Calm d) (hl : 6 ≤ d.cur.length) : (smL.flush 1 d).2.2 = 0 ∧ Lg.Calm (smL.flush 1 d).2.1 ∧ (smL.flush 1 d).2.1.cur.length = d.cur.length ∧ (smL.flush 1 d).2.1.cur.getD 2 [] = bd 0 (smE 1 ++ smE 25) := by
 have hs64 : (bd 0 (smE 1 ++ smE 25)).length = 64 := by rw [← kA]; exact Lg.seal_len (Lg.bytes_len _ _) _
 have hput : smL.put 0 d = d.write ((2 : Nat) : Int) (bd 0 (smE 1 ++ smE 25)) := by
  unfold Lg.put
  rw [kA]; rfl
 obtain ⟨w1, w2, w3⟩ := h.write (a := 2) (s := bd 0 (smE 1 ++ smE 25)) (by rw [hs64]) (by rw [hs64]; omega)
 have hone := Dk.wr_one (d := d) (k := 2) (by omega) hs64 h.on
 have hcur : (d.write ((2 : Nat) : Int) (bd 0 (smE 1 ++ smE 25))).1.cur = d.cur.set 2 (bd 0 (smE 1 ++ smE 25)) := by
  rw [hone]
  exact (Dk.tick_cur _).1
 have hgo : smL.flushE d = ((d.write ((2 : Nat) : Int) (bd 0 (smE 1 ++ smE 25))).1, 0) := by
  have e1 : decide (0 * 54 + 1 < smL.tail) = true := by rw [jV]; rfl
  show smL.flushGo (smL.kept.length + 1) 0 d = _
  rw [Lg.flushGo, e1, hput, w1]
  simp only [decide_true, cond_true]
  exact eK _ _ _ _ (by rw [jV]; omega)
 obtain ⟨s1, s2, s3, s4, s5⟩ := Dk.sync_calm w2.ar w2.on
 obtain ⟨t1, t2, t3⟩ := w2.sync
 have hfl : smL.flush 1 d = ({ smL with last := smL.tail }, (d.write ((2 : Nat) : Int) (bd 0 (smE 1 ++ smE 25))).1.sync.1, 0) := by
  have e0 : (decide ((1 : Int) < (smL.last : Int)) || decide (smL.last = smL.tail)) = false := by rw [jV]; rfl
  unfold Lg.flush
  rw [e0, hgo]
  simp only [cond_false, decide_true, cond_true, t1]
 rw [hfl]
 refine ⟨rfl, t2, by rw [t3, w3], ?_⟩
 show (d.write ((2 : Nat) : Int) (bd 0 (smE 1 ++ smE 25))).1.sync.1.cur.getD 2 [] = _
 rw [s2, hcur, List.getD_eq_getElem?_getD, List.getElem?_set_self (by omega)]
 rfl
theorem rj : cA [] = (none, 0, 40) := rfl
theorem sG {d : Dk} (h : Lg.Calm d) (hl : 6 ≤ d.cur.length) (hc : d.cur.getD 2 [] = bd 0 (smE 1 ++ smE 25)) :
  (fh d 2 4 1).2 = 0 ∧ (iH d 2 4 1) = ([atR sm 1, atR sm 25], 48) ∧ (ms d 2 4 1).tail = 49 := by
 have hlen := mr
 have hlen' : (smE 1 ++ smE 25).length = 48 := hlen
 have hl1 := eO (k := 1) (by omega) sm1
 have hl2 := eO (k := 25) (by omega) ur
 have hrd : aC d 2 4 0 4 0 [] = (smE 1 ++ smE 25, 0) := by
  rw [aC]
  have e := lw h (a := 2) (by omega)
  rw [hc] at e
  rw [show (2 + (0 + 0) % 4 : Nat) = 2 from rfl, e, Lg.opened_seal (by omega)]
  simp only [decide_true, cond_true, hlen']
  rfl
 have hall : be d 2 4 1 = smE 1 ++ smE 25 := by
  show (bif decide ((aC d 2 4 0 4 0 []).1.length < aheadOf 1) then _ else (aC d 2 4 0 4 0 []).1) = _
  rw [hrd]; rfl
 have hS : iH d 2 4 1 = ([atR sm 1, atR sm 25], 48) := by
  have q1 : cA ((smE 1 ++ smE 25).drop 0) = (some (atR sm 1), 24, 0) := by
   rw [List.drop_zero, show smE 1 = (rEnc (atR sm 1)).1 from rfl, gB sm1 (oY 1)]
   rw [show (rEnc (atR sm 1)).1.length = 24 from hl1]
  have q2 : cA ((smE 1 ++ smE 25).drop (0 + 24)) = (some (atR sm 25), 24, 0) := by
   rw [List.drop_left' (by rw [hl1])]
   have := gB ur (oY 25) []
   rw [List.append_nil, show (rEnc (atR sm 25)).1.length = 24 from hl2] at this
   exact this
  have q3 : cA ((smE 1 ++ smE 25).drop (0 + 24 + 24)) = (none, 0, 40) := by
   rw [List.drop_eq_nil_of_le (by omega)]; rfl
  show fe 1 (be d 2 4 1) ((be d 2 4 1).length + 1) 0 [] = _
  rw [hall, hlen', fe, q1]
  have d1 : decide ((atR sm 1).lsn = ((1 + 0 : Nat) : Int)) = true := rfl
  simp only [d1, cond_true]
  rw [fe, q2]
  have d2 : decide ((atR sm 25).lsn = ((1 + (0 + 24) : Nat) : Int)) = true := rfl
  simp only [d2, cond_true]
  exact gG _ _ _ _ _ (by rw [q3])
 refine ⟨?_, hS, ?_⟩
 ·have hf : dn d 2 4 = true := by
   unfold dn
   simp only [Bool.and_eq_true, decide_eq_true_eq]
   omega
  have hr : (aC d (2 : Int).toNat (4 : Int).toNat (((1 : Int).toNat - 1) / 54) (4 : Int).toNat 0 []).2 = 0 := by
   show (aC d 2 4 0 4 0 []).2 = 0
   rw [hrd]
  unfold fh
  rw [hf, h.on, hr]
  simp only [Bool.not_true, Bool.false_or, decide_true, cond_true, cond_false]
  exact qj (L := ms d 2 4 1) h (by show 2 + 4 ≤ _; omega)
 ·show Lg.baseOf 1 + ((be d 2 4 1).take (iH d 2 4 1).2).length = 49
  rw [hS, hall, List.take_of_length_le (by rw [hlen']; exact Nat.le_refl _)]
  rw [hlen']; rfl
theorem wM (w : World) : (Instr.build 28 #[(3, .int .u8 8), (5, iv 1)]).run prog w = .ok (.agg (rcs sm nl nl nl nl nl)) w := by kernel_rfl
theorem gP (w : World) : Cl prog 42 [] w fun v w' => v = .agg (rcs sm nl nl nl nl nl) ∧ Fm (fun _ => False) w w' := by
 refine c42 ?_; unfold T42
 refine ao ?_
 intro x w1 hx hs1 hw1 hf1
 refine af (wM _) ?_
 refine aB hw1 rfl rfl (dA rfl rfl rfl rfl rfl) ?_
 intro w2 hw2 hs2 hf2
 have hret : bU (bF prog (fun j => bif Nat.beq j 0 then pv x else undef) w2 [(ResultVar.cell 0 28)]) w2 (fun v w' => v = .agg (rcs sm nl nl nl nl nl) ∧ Fm (fun _ => False) w w') := by
  simp only [bF, di (f := fun j => bif Nat.beq j 0 then pv x else undef) (a := 0) rfl mq gW hw2 rfl, bU, oH]
  exact ⟨(by trivial), Fm.own hf1 hf2 (by rintro y rfl; omega)⟩
 exact hret
theorem ux : Bnd sm := ⟨by intro n hn; simp [rNums, sm, prs] at hn; unfold okN; omega, by simp [sm], by simp [sm], by simp [sm], by simp [sm], by simp [sm], by simp [sm], by simp [sm], by simp [sm]⟩
theorem vz (w : World) : RcAs w (rcs sm nl nl nl nl nl) sm := by
 have : Rows w 0 sm nl nl nl nl nl := ⟨World.ownsRow_nil _ _ _ _, World.ownsRow_nil _ _ _ _, ⟨[], rfl, World.ownsRow_nil _ _ _ _, by simp⟩, World.ownsRow_nil _ _ _ _, World.ownsRow_nil _ _ _ _⟩
 exact this.asR ux
theorem gQ : ((0 : Int) != 0) = false := rfl
theorem fk (w : World) : Cl prog 25 [] w fun v w' => v = .bool true ∧ Fm (fun _ => False) w w' := by
 refine c25 ?_; unfold T25
 refine (kj w 10).mono ?_
 rintro _ w1 ⟨_, h2⟩
 obtain ⟨b, g, m, rfl, hb, hg, hm, hd, hf1⟩ := h2 (by omega)
 clear h2
 have hlt := hd.lt
 have hcalm : Lg.Calm (Dk.mk0 10) := rk (by omega)
 have hml : (Dk.mk0 10).cur.length = 10 := tV 10
 change DAt w1 b g m (Dk.mk0 10) at hd
 simp only [RS, gQ]
 obtain ⟨hz, hc2, hl2⟩ := rU hcalm (i := 2) (j := 4) (by omega) (by omega)
 refine (gf hd ((2 : Nat) : Int) ((4 : Nat) : Int)).mono ?_
 rintro _ w2 ⟨p, rfl, hd2, hf2, _, h3⟩
 obtain ⟨lb, X, rfl, hL2, hX⟩ := h3 hz
 rw [hz]
 simp only [Int.toNat_natCast] at hL2
 generalize (jf (Dk.mk0 10) ((2 : Nat) : Int) ((4 : Nat) : Int)).1 = d2 at hd2 hc2 hl2
 have hF2 : Fm (fun _ => False) w w2 := Fm.own hf1 hf2 (by rintro y (rfl | rfl | rfl) <;> assumption)
 have hr : (Lg.new 2 4).room = 108 := rfl
 simp only [RS, gQ]
 refine (ey hL2).mono ?_
 rintro _ w3 ⟨rfl, hf3⟩
 rw [hr]
 have hL3 := hL2.keep0 hf3
 have hd3 := hd2.keep0 hf3
 have hF3 := Fmf hF2 hf3
 simp only [RS, bne_self_eq_false]
 refine (gP w3).mono ?_
 rintro _ w4 ⟨rfl, hf4⟩
 have hL4 := hL3.keep0 hf4
 have hd4 := hd3.keep0 hf4
 have hF4 := Fmf hF3 hf4
 have hDX : ∀ {X' : Nat → Prop}, (∀ y, X' y → w1.heap.size ≤ y) → ¬ X' b ∧ ¬ X' g ∧ ¬ X' m := fun h => ⟨fun e => by have := h _ e; omega, fun e => by have := h _ e; omega, fun e => by have := h _ e; omega⟩
 have z1 := hf1.size
 refine (dY hL4 (cs := rcs sm nl nl nl nl nl) (r := sm) (fun w' _ => vz w')).mono ?_
 rintro _ w5 ⟨rfl, X5, hL5, hX5, hf5⟩
 rw [sF] at hL5 ⊢
 have hz4 := (hf2.size)
 have z3 := hf3.size; have z4 := hf4.size
 have hXb5 : ∀ y, X5 y → w1.heap.size ≤ y := fun y hy => by
  rcases hX5 y hy with e | e
  ·exact hX y e
  ·omega
 have hd5 := hd4.keep hf5 (hDX hX).1 (hDX hX).2.1 (hDX hX).2.2
 have hF5 : Fm (fun _ => False) w w5 := Fm.own hF4 hf5 (fun y hy => by have := hX y hy; omega)
 simp only [RS]
 refine (gP w5).mono ?_
 rintro _ w6 ⟨rfl, hf6⟩
 have hL6 := hL5.keep0 hf6
 have hd6 := hd5.keep0 hf6
 have hF6 := Fmf hF5 hf6
 have z5 := hf5.size; have z6 := hf6.size
 refine (dY hL6 (cs := rcs sm nl nl nl nl nl) (r := sm) (fun w' _ => vz w')).mono ?_
 rintro _ w7 ⟨rfl, X7, hL7, hX7, hf7⟩
 rw [tN] at hL7 ⊢
 have hXb7 : ∀ y, X7 y → w1.heap.size ≤ y := fun y hy => by
  rcases hX7 y hy with e | e
  ·exact hXb5 y e
  ·omega
 have hd7 := hd6.keep hf7 (hDX hXb5).1 (hDX hXb5).2.1 (hDX hXb5).2.2
 have hF7 : Fm (fun _ => False) w w7 := Fm.own hF6 hf7 (fun y hy => by have := hXb5 y hy; omega)
 change LAt w7 X7 lb b smL at hL7
 simp only [RS]
 obtain ⟨f1, f2, f3, f4⟩ := rT hc2 (by omega)
 refine (gK hL7 hd7 (hDX hXb7) 1).mono ?_
 rintro _ w8 ⟨rfl, hL8, hd8, hf8⟩
 rw [f1]
 have hlb := hXb7 lb hL7.lb
 have hF8 : Fm (fun _ => False) w w8 := Fm.own hF7 hf8 (by rintro y (rfl | rfl | rfl | rfl) <;> omega)
 generalize (smL.flush 1 d2).2.1 = d8 at hd8 f2 f3 f4
 obtain ⟨o1, o2, o3⟩ := sG f2 (by omega) f4
 simp only [RS, gQ]
 refine (iY hd8 2 4 1 (by omega)).mono ?_
 rintro _ w9 ⟨p, ov, rfl, hd9, hf9, _, hok⟩
 rw [o1]
 obtain ⟨lb9, X9, Q9, C, rfl, hL9, ho9, hCl, hC9, hXb9, hQ9, hon9⟩ := (hok o1).ex
 change C.length = (iH d8 2 4 1).1.length at hCl
 change ∀ (i : Nat) cs r, C[i]? = some cs → (iH d8 2 4 1).1[i]? = some r → Held w9 Q9 cs r at hC9
 change LAt w9 X9 lb9 b (ms d8 2 4 1) at hL9
 rw [o2] at hCl hC9
 have hF9 : Fm (fun _ => False) w w9 := Fm.own hF8 hf9 (by rintro y (rfl | rfl | rfl) <;> omega)
 obtain ⟨c1, c2, rfl⟩ : ∃ c1 c2, C = [c1, c2] := by
  match C, hCl with
  | [c1, c2], _ => exact ⟨c1, c2, rfl⟩
 have h1 := (hC9 0 c1 _ rfl rfl).now
 have h2 := (hC9 1 c2 _ rfl rfl).now
 have hlv := (CellsAt.of_own ho9).lenV
 obtain ⟨ad, hix, _, hcell⟩ := (CellsAt.of_own ho9).at (by omega) (i := 1) (by simp) .i64
 have hc0 : w9.cell? ad = some (iv 25) := by
  have := hcell 0 (by omega)
  rw [Go.Al.add_zero] at this
  rw [this]
  obtain ⟨vs, vm, vi, vp, vt, rfl, _⟩ := h2.ex
  have hs1 : c1.toList.length = 16 := by rw [Array.length_toList]; exact h1.size
  simp only [List.flatMap_cons, List.flatMap_nil, List.append_nil]
  rw [List.getElem?_append_right (by omega), hs1]
  rfl
 change lenV ov = some (iv ((2 : Nat) : Int)) at hlv
 have d2 : ((2 : Nat) : Int) = 2 := rfl
 rw [d2] at hlv
 have d1 : ((1 : Nat) : Int) = 1 := rfl
 rw [d1] at hix
 simp only [RS, hlv, hix, hc0, beq_self_eq_true]
 refine (cr hL9).mono ?_
 rintro _ w10 ⟨rfl, hf10⟩
 rw [o3]
 simp only [RS, beq_self_eq_true]
 exact ⟨(by trivial), Fmf hF9 hf10⟩
def vI : Vw prog 3 Int := wO .i64 Tryz.underlying3 (by kernel_rfl)
def vS : Vw prog 9 Bs := wW Tryz.underlying9 (by kernel_rfl)
def vSs : Vw prog 59 (List Bs) := fZ Tryz.underlying59 (by kernel_rfl) vS
abbrev PgT := Int × Int × Int × Int × Bs × List Bs × Unit
def vPage : Vw prog 61 PgT := dG Tryz.underlying61 (aL rfl 1 (by kernel_rfl) vI (aL rfl 1 (by kernel_rfl) vI (aL rfl 1 (by kernel_rfl) vI (aL rfl 1 (by kernel_rfl) vI (aL rfl 1 (by kernel_rfl) vS (aL rfl 1 (by kernel_rfl) vSs kr)))))) (by kernel_rfl)
def jh (x : PgT) : Pg := ⟨x.1, x.2.1, x.2.2.1, x.2.2.2.1, x.2.2.2.2.1, x.2.2.2.2.2.1⟩
structure PgIn (w : World) (cs : Array Value) (p : Pg) : Prop where
 isA : PgAs w cs p
 many : p.items.length * 16 ≤ 140737488351232
 small : (∀ x ∈ p.items, x.length ≤ 140737488351232) ∧ p.high.length ≤ 140737488351232
theorem sK {w : World} {cs : Array Value} {x : PgT} (h : vPage.rel w cs.toList x) : PgIn w cs (jh x) := by
 obtain ⟨lsn, kind, level, right, high, items, u⟩ := x
 obtain ⟨c0, r0, he, ⟨rfl, h0⟩, c1, r1, rfl, ⟨rfl, h1⟩, c2, r2, rfl, ⟨rfl, h2⟩, c3, r3, rfl, ⟨rfl, h3⟩, c4, r4, rfl, ⟨rfl, h4⟩, c5, r5, rfl, ⟨im, rfl, him⟩, h6⟩ := h
 cases h6
 simp only at h0 h1 h2 h3 h4 him
 have hc := him.cells (f := stv) (by kernel_rfl) (fun cs x hx => hx.1)
 have hsm := him.small
 rw [show prog.bytesOf 9 = 16 by kernel_rfl] at hsm
 unfold reachBytes at hsm h4
 have hone : im.oneCell' = true := by obtain ⟨⟨a, cap, rfl, _⟩, _⟩ := him; rfl
 have hit : ∀ x ∈ items, x.length ≤ 140737488351232 := by
  intro x hx
  obtain ⟨i, hi⟩ := List.getElem?_of_mem hx
  obtain ⟨ad, cs', _, hr, _⟩ := him.at hi (c := 1) (by kernel_rfl) .i64
  have := hr.2
  unfold reachBytes at this
  omega
 have hcs : cs = pcs (jh (lsn, kind, level, right, high, items, u)) im := by
  apply Array.ext'
  rw [he]; rfl
 refine ⟨⟨⟨im, hcs, hone, hc⟩, fun x hx => by have := hit x hx; omega, aQ h0, aQ h1, aQ h2, aQ h3, by show high.length ≤ _; omega, by show items.length * 16 ≤ _; omega⟩, by show items.length * 16 ≤ _; omega, hit, by show high.length ≤ _; omega⟩
def wD : Vw prog 22 Int := wO .u8 Tryz.underlying22 (by kernel_rfl)
def sQ : Vw prog 23 (List Int) := fZ Tryz.underlying23 (by kernel_rfl) vI
abbrev ImgT := Int × PgT × Unit
abbrev PrT := Int × Int × Unit
def vImg : Vw prog 118 ImgT := dG Tryz.underlying118 (aL rfl 1 (by kernel_rfl) vI (aL rfl 6 (by kernel_rfl) vPage kr)) (by kernel_rfl)
def wG : Vw prog 24 (List ImgT) := fZ Tryz.underlying24 (by kernel_rfl) vImg
def vOwed : Vw prog 120 PrT := dG Tryz.underlying120 (aL rfl 1 (by kernel_rfl) vI (aL rfl 1 (by kernel_rfl) vI kr)) (by kernel_rfl)
def vF : Vw prog 25 (List PrT) := fZ Tryz.underlying25 (by kernel_rfl) vOwed
def vBeg : Vw prog 122 PrT := dG Tryz.underlying122 (aL rfl 1 (by kernel_rfl) vI (aL rfl 1 (by kernel_rfl) vI kr)) (by kernel_rfl)
def wN : Vw prog 26 (List PrT) := fZ Tryz.underlying26 (by kernel_rfl) vBeg
abbrev RecT := Int × Int × Int × Int × Int × Int × Int × Int × Int × Int × Bs × List Int × List Int × List ImgT × List PrT × List PrT × Unit
def vRec : Vw prog 28 RecT := dG Tryz.underlying28 (aL rfl 1 (by kernel_rfl) vI (aL rfl 1 (by kernel_rfl) vI (aL rfl 1 (by kernel_rfl) vI (aL rfl 1 (by kernel_rfl) wD (aL rfl 1 (by kernel_rfl) vI (aL rfl 1 (by kernel_rfl) vI (aL rfl 1 (by kernel_rfl) vI (aL rfl 1 (by kernel_rfl) vI (aL rfl 1 (by kernel_rfl) vI (aL rfl 1 (by kernel_rfl) vI (aL rfl 1 (by kernel_rfl) vS (aL rfl 1 (by kernel_rfl) sQ (aL rfl 1 (by kernel_rfl) sQ (aL rfl 1 (by kernel_rfl) wG (aL rfl 1 (by kernel_rfl) vF (aL rfl 1 (by kernel_rfl) wN kr)))))))))))))))) (by kernel_rfl)
def kH (x : RecT) : Nat := (1 + (1 + (1 + (1 + (1 + (1 + (1 + (1 + (1 + (1 + (1 + ((((x.2.2.2.2.2.2.2.2.2.2.2.1).map fun _ => 1).sum + 1) + ((((x.2.2.2.2.2.2.2.2.2.2.2.2.1).map fun _ => 1).sum + 1) + ((((x.2.2.2.2.2.2.2.2.2.2.2.2.2.1).map fun _ => 1).sum + 1) + ((((x.2.2.2.2.2.2.2.2.2.2.2.2.2.2.1).map fun _ => 1).sum + 1) + ((((x.2.2.2.2.2.2.2.2.2.2.2.2.2.2.2.1).map fun _ => 1).sum + 1) + 0))))))))))))))))
theorem ru : Szd vRec kH := Szd.struct (SzF.cons (Szd.one _) (SzF.cons (Szd.one _) (SzF.cons (Szd.one _) (SzF.cons (Szd.one _) (SzF.cons (Szd.one _) (SzF.cons (Szd.one _) (SzF.cons (Szd.one _) (SzF.cons (Szd.one _) (SzF.cons (Szd.one _) (SzF.cons (Szd.one _) (SzF.cons (Szd.one _) (SzF.cons (Szd.slice (Szd.one _)) (SzF.cons (Szd.slice (Szd.one _)) (SzF.cons (Szd.slice (Szd.one _)) (SzF.cons (Szd.slice (Szd.one _)) (SzF.cons (Szd.slice (Szd.one _)) SzF.nil))))))))))))))))
theorem qO {α : Type} (l : List α) : (l.map fun _ => 1).sum = l.length := by
 induction l with
 | nil => rfl
 | cons a l ih => simp only [List.map_cons, List.sum_cons, ih, List.length_cons]; omega
def rD (x : RecT) : Rc := ⟨x.1, x.2.1, x.2.2.1, x.2.2.2.1, x.2.2.2.2.1, x.2.2.2.2.2.1, x.2.2.2.2.2.2.1, x.2.2.2.2.2.2.2.1, x.2.2.2.2.2.2.2.2.1, x.2.2.2.2.2.2.2.2.2.1, x.2.2.2.2.2.2.2.2.2.2.1, x.2.2.2.2.2.2.2.2.2.2.2.1, x.2.2.2.2.2.2.2.2.2.2.2.2.1, x.2.2.2.2.2.2.2.2.2.2.2.2.2.1.map fun m => (m.1, jh m.2.1), x.2.2.2.2.2.2.2.2.2.2.2.2.2.2.1.map fun p => (p.1, p.2.1), x.2.2.2.2.2.2.2.2.2.2.2.2.2.2.2.1.map fun p => (p.1, p.2.1)⟩
theorem sJ {x : RecT} (h : kH x ≤ 1048576) : (rD x).slots.length + (rD x).more.length + (rD x).imgs.length + (rD x).pages.length + (rD x).txns.length ≤ 2000000 := by
 unfold kH at h
 simp only [qO] at h
 simp only [rD, List.length_map]
 omega
theorem su {w : World} {v : Value} {xs : List Int} (h : SliceAs vI w v xs) : ∀ n ∈ xs, In n := fun n hn => by
 obtain ⟨i, hi⟩ := List.getElem?_of_mem hn
 obtain ⟨⟨a, cap, rfl, h1, h2, h3, h4⟩, _⟩ := h
 obtain ⟨ad, cs', g1, g2, g3⟩ := h4 i n hi
 exact aQ g2.2
theorem vy {w : World} {cs : List Value} {x : PrT} (h : vOwed.rel w cs x) : cs = pc2 (x.1, x.2.1) ∧ In x.1 ∧ In x.2.1 := by
 obtain ⟨a, b, u⟩ := x
 obtain ⟨c0, r0, he, ⟨rfl, h0⟩, c1, r1, rfl, ⟨rfl, h1⟩, h6⟩ := h
 cases h6
 exact ⟨he, aQ h0, aQ h1⟩
theorem tP {w : World} {cs : List Value} {x : PrT} (h : vBeg.rel w cs x) : cs = pc2 (x.1, x.2.1) ∧ In x.1 ∧ In x.2.1 := by
 obtain ⟨a, b, u⟩ := x
 obtain ⟨c0, r0, he, ⟨rfl, h0⟩, c1, r1, rfl, ⟨rfl, h1⟩, h6⟩ := h
 cases h6
 exact ⟨he, aQ h0, aQ h1⟩
theorem ln {β : Type} {a : Option Addr} {w : World} {cap n : Nat} {f : β → List Value} (hf : ∀ y, (f y).length = n) (hn : 0 < n) {X : List β} (h1 : X.length ≤ cap) (h2 : cap ≤ maxLen) (h3 : a = none → X.length = 0 ∧ cap = 0)
  (h4 : ∀ i y, X[i]? = some y → ∃ ad, a = some ad ∧ ∀ j, j < n → w.cell? (ad.add (i * n + j)) = (f y)[j]?) : CellsAt w (.slice a X.length cap) X.length n (X.flatMap f) := by
 refine ⟨⟨a, cap, rfl, h1, h2, h3, fun j u hj => ?_⟩, flat_len hf X⟩
 have hlt := (List.getElem?_eq_some_iff.1 hj).1
 rw [flat_len hf] at hlt
 have hi : j / n < X.length := (Nat.div_lt_iff_lt_mul hn).2 hlt
 have hx : X[j / n]? = some X[j / n] := List.getElem?_eq_getElem hi
 obtain ⟨ad, g1, g2⟩ := h4 _ _ hx
 have hr : j % n < n := Nat.mod_lt _ hn
 have hjj : j / n * n + j % n = j := by rw [Nat.mul_comm]; exact Nat.div_add_mod j n
 have e1 := nA hf hx hr
 rw [hjj, hj] at e1
 have e2 := g2 _ hr
 rw [hjj, ← e1] at e2
 exact ⟨ad, g1, e2⟩
theorem rZ {w : World} {v : Value} {xs : List PrT} {e : TypeId} {A : Vw prog e PrT} (hc : prog.cellsOf e = 2) (hA : ∀ cs x, A.rel w cs x → cs = pc2 (x.1, x.2.1) ∧ In x.1 ∧ In x.2.1) (h : SliceAs A w v xs) :
  CellsAt w v (xs.map fun p => (p.1, p.2.1)).length 2 ((xs.map fun p => (p.1, p.2.1)).flatMap pc2) ∧ ∀ n ∈ prs (xs.map fun p => (p.1, p.2.1)), In n := by
 obtain ⟨⟨a, cap, rfl, h1, h2, h3, h4⟩, _⟩ := h
 have hl : (xs.map fun p => ((p.1, p.2.1) : Int × Int)).length = xs.length := List.length_map ..
 constructor
 ·have := ln (w := w) (a := a) (cap := cap) bj (by omega) (X := xs.map fun p => ((p.1, p.2.1) : Int × Int)) (by omega) h2 (by rw [hl]; exact h3) (fun i y hy => by
   rw [List.getElem?_map, Option.map_eq_some_iff] at hy
   obtain ⟨x, hx, rfl⟩ := hy
   obtain ⟨ad, cs', g1, g2, g3⟩ := h4 i x hx
   obtain ⟨rfl, _⟩ := hA _ _ g2
   rw [hc] at g3
   exact ⟨ad, g1, g3⟩)
  rw [hl] at this ⊢
  exact this
 ·intro n hn
  obtain ⟨p, hp, e⟩ := fl hn
  obtain ⟨x, hx, rfl⟩ := List.mem_map.1 hp
  obtain ⟨i, hi⟩ := List.getElem?_of_mem hx
  obtain ⟨ad, cs', g1, g2, g3⟩ := h4 i x hi
  obtain ⟨_, q1, q2⟩ := hA _ _ g2
  rcases e with rfl | rfl
  ·exact q1
  ·exact q2
theorem qH {w : World} {cs : List Value} {x : ImgT} (h : vImg.rel w cs x) : In x.1 ∧ ∃ u, cs = imC (x.1, jh x.2.1, u) ∧ u.oneCell' = true ∧ PgAs w (pcs (jh x.2.1) u) (jh x.2.1) := by
 obtain ⟨m, p, uu⟩ := x
 obtain ⟨c0, r0, he, ⟨rfl, h0⟩, c1, r1, rfl, hp, h6⟩ := h
 cases h6
 have hp' : vPage.rel w c1.toArray.toList p := by rw [List.toList_toArray]; exact hp
 have hpg := sK hp'
 obtain ⟨u, e1, e2, e3⟩ := hpg.isA.ex
 refine ⟨aQ h0, u, ?_, e2, e1 ▸ hpg.isA⟩
 have : c1 = (pcs (jh p) u).toList := by rw [← e1]
 rw [he, this]
 simp [imC]
theorem sM {w : World} {v : Value} {xs : List ImgT} (h : SliceAs vImg w v xs) : ImAs w v (xs.map fun m => (m.1, jh m.2.1)) ∧ (∀ n ∈ (xs.map fun m => ((m.1, jh m.2.1) : Int × Pg)).map (·.1), In n) ∧ ∀ m ∈ (xs.map fun m => ((m.1, jh m.2.1) : Int × Pg)), m.2.lsn ≤ 9223372036854775807 := by
 have hc : prog.cellsOf 118 = 7 := by kernel_rfl
 obtain ⟨⟨a, cap, rfl, h1, h2, h3, h4⟩, _⟩ := h
 have key : ∀ i : Nat, ∃ u : Value, ∀ x, xs[i]? = some x → (u.oneCell' = true ∧ PgAs w (pcs (jh x.2.1) u) (jh x.2.1)) ∧ ∃ ad, a = some ad ∧ ∀ j, j < 7 → w.cell? (ad.add (i * 7 + j)) = (imC (x.1, jh x.2.1, u))[j]? := by
  intro i
  cases hx : xs[i]? with
  | none => exact ⟨nl, fun x hx => by cases hx⟩
  | some x =>
   obtain ⟨ad, cs', g1, g2, g3⟩ := h4 i x hx
   obtain ⟨_, u, rfl, q1, q2⟩ := qH g2
   rw [hc] at g3
   exact ⟨u, fun y hy => by cases hy; exact ⟨⟨q1, q2⟩, ad, g1, g3⟩⟩
 let g : Nat → Value := fun i => Classical.choose (key i)
 have hg : ∀ i x, xs[i]? = some x → ((g i).oneCell' = true ∧ PgAs w (pcs (jh x.2.1) (g i)) (jh x.2.1)) ∧ ∃ ad, a = some ad ∧ ∀ j, j < 7 → w.cell? (ad.add (i * 7 + j)) = (imC (x.1, jh x.2.1, g i))[j]? := fun i => Classical.choose_spec (key i)
 have hX : ∀ i, (xs.zipIdx.map fun y => ((y.1.1, jh y.1.2.1, g y.2) : Int × Pg × Value))[i]? = (xs[i]?).map fun x => (x.1, jh x.2.1, g i) := fun i => by
  rw [List.getElem?_map, List.getElem?_zipIdx]
  cases xs[i]? with
  | none => rfl
  | some x => simp
 have hXl : (xs.zipIdx.map fun y => ((y.1.1, jh y.1.2.1, g y.2) : Int × Pg × Value)).length = xs.length := by simp
 generalize (xs.zipIdx.map fun y => ((y.1.1, jh y.1.2.1, g y.2) : Int × Pg × Value)) = X at hX hXl
 refine ⟨⟨X, ?_, ?_, ?_⟩, ?_, ?_⟩
 ·apply List.ext_getElem?
  intro i
  rw [List.getElem?_map, hX, List.getElem?_map]
  cases xs[i]? <;> rfl
 ·have := ln (w := w) (a := a) (cap := cap) kd (by omega) (X := X) (by omega) h2 (by rw [hXl]; exact h3) (fun i y hy => by
   rw [hX, Option.map_eq_some_iff] at hy
   obtain ⟨x, hx, rfl⟩ := hy
   exact (hg i x hx).2)
  rw [hXl] at this ⊢
  exact this
 ·intro y hy
  obtain ⟨i, hi⟩ := List.getElem?_of_mem hy
  rw [hX, Option.map_eq_some_iff] at hi
  obtain ⟨x, hx, rfl⟩ := hi
  exact (hg i x hx).1
 ·intro n hn
  rw [List.map_map] at hn
  obtain ⟨x, hx, rfl⟩ := List.mem_map.1 hn
  obtain ⟨i, hi⟩ := List.getElem?_of_mem hx
  obtain ⟨ad, cs', g1, g2, g3⟩ := h4 i x hi
  exact (qH g2).1
 ·intro m hm
  obtain ⟨x, hx, rfl⟩ := List.mem_map.1 hm
  obtain ⟨i, hi⟩ := List.getElem?_of_mem hx
  exact (hg i x hi).1.2.ins.1.2
theorem uJ {w : World} {cs : Array Value} {x : RecT} (h : vRec.rel w cs.toList x) (hz : kH x ≤ 1048576) : RcAs w cs (rD x) := by
 have hbulk := sJ hz
 obtain ⟨y0, y1, y2, y3, y4, y5, y6, y7, y8, y9, y10, y11, y12, y13, y14, y15, uu⟩ := x
 obtain ⟨c0, r0, he, ⟨rfl, h0⟩, c1, r1, rfl, ⟨rfl, h1⟩, c2, r2, rfl, ⟨rfl, h2⟩, c3, r3, rfl, ⟨rfl, h3⟩, c4, r4, rfl, ⟨rfl, h4⟩, c5, r5, rfl, ⟨rfl, h5⟩, c6, r6, rfl, ⟨rfl, h6⟩, c7, r7, rfl, ⟨rfl, h7⟩, c8, r8, rfl, ⟨rfl, h8⟩, c9, r9, rfl, ⟨rfl, h9⟩, c10, r10, rfl, ⟨rfl, h10⟩, c11, r11, rfl, ⟨vs, rfl, h11⟩, c12, r12, rfl, ⟨vm, rfl, h12⟩, c13, r13, rfl, ⟨vi, rfl, h13⟩, c14, r14, rfl, ⟨vp, rfl, h14⟩, c15, r15, rfl, ⟨vt, rfl, h15⟩, hu⟩ := h
 cases hu
 simp only at h0 h1 h2 h3 h4 h5 h6 h7 h8 h9 h10 h11 h12 h13 h14 h15
 have one : ∀ {α : Type} {e : TypeId} {A : Vw prog e α} {v : Value} {xs : List α}, SliceAs A w v xs → v.oneCell' = true := fun hh => by obtain ⟨⟨a, cap, rfl, _⟩, _⟩ := hh; rfl
 obtain ⟨i1, i2, i3⟩ := sM h13
 obtain ⟨p1, p2⟩ := rZ (by kernel_rfl) (fun _ _ hh => vy hh) h14
 obtain ⟨t1, t2⟩ := rZ (by kernel_rfl) (fun _ _ hh => tP hh) h15
 unfold reachBytes at h10
 have hk : 0 ≤ y3 ∧ y3 ≤ 255 := by
  simp only [Lit.wf, Bool.and_eq_true, decide_eq_true_eq] at h3
  exact h3
 refine ⟨⟨vs, vm, vi, vp, vt, ?_, ⟨one h11, one h12, one h13, one h14, one h15⟩, h11.cells (f := iv) (by kernel_rfl) (fun cs x hx => hx.1), h12.cells (f := iv) (by kernel_rfl) (fun cs x hx => hx.1), i1, p1, t1⟩, fun n hn => ?_, hk, by show y10.length ≤ _; omega, hbulk, i3⟩
 ·apply Array.ext'
  rw [he]; rfl
 ·unfold rNums at hn
  simp only [List.mem_append] at hn
  rcases hn with ((((hn | hn) | hn) | hn) | hn) | hn
  ·simp only [rD, List.mem_cons, List.not_mem_nil, or_false] at hn
   rcases hn with rfl | rfl | rfl | rfl | rfl | rfl | rfl | rfl | rfl <;> (apply aQ; assumption)
  ·exact su h11 n hn
  ·exact su h12 n hn
  ·exact i2 n hn
  ·exact p2 n hn
  ·exact t2 n hn
abbrev OpT := Int × Int × Int × RecT × List Int × Unit
def vOp : Vw prog 44 OpT := dG Tryz.underlying44 (aL rfl 1 (by kernel_rfl) vI (aL rfl 1 (by kernel_rfl) vI (aL rfl 1 (by kernel_rfl) vI (aL rfl 16 (by kernel_rfl) vRec (aL rfl 1 (by kernel_rfl) sQ kr))))) (by kernel_rfl)
def xo : Vw prog 35 (List OpT) := fZ Tryz.underlying35 (by kernel_rfl) vOp
def sq (x : OpT) : Nat := (1 + (1 + (1 + (kH x.2.2.2.1 + ((((x.2.2.2.2.1).map fun _ => 1).sum + 1) + 0)))))
theorem sC : Szd vOp sq := Szd.struct (SzF.cons (Szd.one _) (SzF.cons (Szd.one _) (SzF.cons (Szd.one _) (SzF.cons ru (SzF.cons (Szd.slice (Szd.one _)) SzF.nil)))))
theorem ops_sum {l : List OpT} : l.length ≤ (l.map sq).sum ∧ ∀ x ∈ l, kH x.2.2.2.1 ≤ (l.map sq).sum := by
 induction l with
 | nil => simp
 | cons x l ih =>
  have : 1 ≤ sq x ∧ kH x.2.2.2.1 ≤ sq x := by unfold sq; omega
  simp only [List.length_cons, List.map_cons, List.sum_cons]
  refine ⟨by omega, fun y hy => ?_⟩
  rcases List.mem_cons.1 hy with rfl | hy
  ·omega
  ·have := ih.2 y hy; omega
def wR (n : Nat) (a : Int) : Nat := ((a.tmod n + n).tmod n).toNat
theorem sA (d : TypeDesc) {a b : Int} (h0 : 0 < b) (h1 : b ≤ 9223372036854775807) : aa d .rem (iv a) (iv b) = some (iv (a.tmod b)) := by
 have h2 := Int.lt_tmod_of_pos a h0
 have h3 := Int.tmod_lt_of_pos a h0
 rw [jN, if_neg (by omega)]
theorem tq {n : Nat} (h : 1 ≤ n) (a : Int) : wR n a < n ∧ (a.tmod n + n).tmod n = (wR n a : Int) ∧ -(n : Int) < a.tmod n ∧ a.tmod n < n := by
 unfold wR
 have h0 : (0 : Int) < (n : Int) := by omega
 have h1 := Int.lt_tmod_of_pos a h0
 have h2 := Int.tmod_lt_of_pos a h0
 have h3 := Int.tmod_lt_of_pos (a.tmod n + n) h0
 have h4 : 0 ≤ (a.tmod n + n).tmod n := Int.tmod_nonneg _ (by omega)
 omega
theorem z28 (w : World) : (zeroValue 28).run prog w = .ok (.agg (rcs rc0 nl nl nl nl nl)) w := by kernel_rfl
theorem wY {w : World} {g : Nat} {cs : Array Value} {e : Int} (h : w.heap[g]? = some (.cells cs 28)) (hn : cs.size = 16) {k : KV} (hk : k (.tuple #[.agg cs, iv e]) w) :
  bU (bF prog (fun j => bif Nat.beq j 4 then pv g else bif Nat.beq j 5 then iv e else undef) w [(ResultVar.cell 4 28), (ResultVar.tmp 5)]) w k := by
 have h3 : lR prog (fun j => bif Nat.beq j 4 then pv g else bif Nat.beq j 5 then iv e else undef) w (.tmp 5) = some (iv e) := rfl
 simp only [bF, di (f := fun j => bif Nat.beq j 4 then pv g else bif Nat.beq j 5 then iv e else undef) (a := 4) rfl mq gW h hn, h3, bU, oH]
 exact hk
theorem LIn.get {w : World} {X P : Nat → Prop} {lb db mb : Nat} {kv : Value} {M : List (Int × Array Value)} {L : Lg} (h : LIn w X P lb db mb kv M L) (k : Int) :
  (getD L.recs k = none ∧ getD M k = none) ∨ ∃ r cs, getD L.recs k = some r ∧ getD M k = some cs ∧ (k, r) ∈ L.recs ∧ Held w P cs r := by
 have hn : (L.recs.map (·.1)).Nodup := by rw [← h.keys]; exact h.mp.keys
 cases hM : getD M k with
 | none =>
  left
  refine ⟨?_, rfl⟩
  rw [bz] at hM ⊢
  rw [← h.keys]; exact hM
 | some cs =>
  right
  obtain ⟨r, h1, h2⟩ := h.rec_ k cs ((getD_some h.mp.keys).1 hM)
  exact ⟨r, cs, (getD_some hn).2 h1, rfl, h1, h2⟩
theorem qx {w : World} {X : Nat → Prop} {lb db : Nat} {L : Lg} (h : LAt w X lb db L) (k : Int) : Cl prog 29 [pv lb, iv k] w fun v w' => Fm (fun _ => False) w w' ∧
  ((getD L.recs k = none ∧ v = .tuple #[.agg (rcs rc0 nl nl nl nl nl), iv 51]) ∨ ∃ r cs, getD L.recs k = some r ∧ v = .tuple #[.agg cs, iv 0] ∧ RcAs w' cs r) := by
 obtain ⟨P, mb, kv, M, hi⟩ := h.ex
 refine c29 ?_; unfold T29
 refine ao ?_
 intro x1 w1 hx1 hs1 hw1 hf1
 have hi1 := hi.keep0 hf1
 simp only [RS, hi1.c8]
 refine af (em uc hi1.mp k true (z28 _)) ?_
 have one0 := dA (r := rc0) (vs := nl) (vm := nl) (vi := nl) (vp := nl) (vt := nl) rfl rfl rfl rfl rfl
 rcases hi1.get k with ⟨g1, g2⟩ | ⟨r, cs, g1, g2, g3, g4⟩
 ·rw [g2]
  simp only [okV, cond_true]
  try simp only [RS]
  refine ao ?_
  intro x2 w2 hx2 hs2 hw2 hf2
  refine aB hw2 rfl rfl one0 ?_
  intro w3 hw3 hs3 hf3
  try simp only [RS]
  refine af (kF _) ?_
  have hw3' := hf3.heap (hf2.heap hw1 (fun e => e)) (show ¬ x1 = x2 by omega)
  refine aB hw3' rfl rfl one0 ?_
  intro w4 hw4 hs4 hf4
  exact wY hw4 rfl ⟨Fm.own (Fm.own (Fmf hf1 hf2) hf3 (by rintro y rfl; omega)) hf4 (by rintro y rfl; omega), .inl ⟨g1, rfl⟩⟩
 ·rw [g2]
  simp only [okV, cond_true]
  have hsz := g4.now.size
  have hone := g4.now.one
  obtain ⟨q1, q2, _⟩ := h.wf.ok _ g3
  try simp only [RS]
  refine ao ?_
  intro x2 w2 hx2 hs2 hw2 hf2
  refine aB hw2 rfl hsz hone ?_
  intro w3 hw3 hs3 hf3
  have hxP : ∀ y, P y → ¬ y = x2 := by
   rintro y hy rfl
   have := hi1.lt _ (hi1.xs.2.2.2 _ hy)
   omega
  have g5 := (g4.keep hf2 (fun _ _ e => e)).keep hf3 hxP
  simp only [RS, ax hw3 hsz]
  refine (jH g5.now q2).mono ?_
  rintro _ w4 ⟨cs', rfl, hheld, hf4⟩
  have hw4 := hf4.heap (hf3.heap (hf2.heap hw1 (fun e => e)) (show ¬ x1 = x2 by omega)) (fun e => e)
  have hsz' := hheld.now.size
  refine aB hw4 rfl hsz' hheld.now.one ?_
  intro w5 hw5 hs5 hf5
  have z2 := hf2.size; have z3 := hf3.size
  refine wY hw5 hsz' ⟨Fm.own (Fmf (Fm.own (Fmf hf1 hf2) hf3 (by rintro y rfl; omega)) hf4) hf5 (by rintro y rfl; omega), .inr ⟨r, cs', g1, rfl, (hheld.keep hf5 (by rintro y hy rfl; omega)).now⟩⟩
theorem kK {γ : Type} {l : List γ} {i : Nat} {p : γ} (hi : l[i]? = some p) : (l.eraseIdx i).length + 1 = l.length := by
 have h := (List.getElem?_eq_some_iff.1 hi).1
 rw [List.length_eraseIdx, if_pos h]; omega
theorem gX (M : List (Int × Array Value)) (hn : (M.map (·.1)).Nodup) (q : Int × Array Value → Bool) (a : Int) : sh (M.filter q) a = M.filter (fun x => q x && !decide (x.1 = a)) := by
 induction M with
 | nil => rfl
 | cons p l ih =>
  rw [List.map_cons, List.nodup_cons] at hn
  have ih := ih hn.2
  rw [List.filter_cons, List.filter_cons]
  by_cases hq : q p = true
  ·rw [if_pos hq, sh]
   by_cases ha : p.1 = a
   ·have hno : ∀ x ∈ l, ¬ x.1 = a := fun x hx e => hn.1 (by rw [ha, ← e]; exact List.mem_map.2 ⟨x, hx, rfl⟩)
    rw [if_pos ha, if_neg (by simp [ha])]
    exact (List.filter_congr (fun x hx => by simp [hno x hx])).symm
   ·rw [if_neg ha, if_pos (by simp [hq, ha]), ih]
  ·rw [if_neg hq, if_neg (by simp [hq]), ih]
theorem iE {α β : Type} (M : List (Int × α)) (R : List (Int × β)) (h : M.map (·.1) = R.map (·.1)) (b : Int) : (M.filter (fun p => decide (b ≤ p.1))).map (·.1) = (R.filter (fun p => decide (b ≤ p.1))).map (·.1) := by
 have e1 : (M.filter (fun p => decide (b ≤ p.1))).map (·.1) = (M.map (·.1)).filter (fun k => decide (b ≤ k)) := by rw [List.filter_map]; rfl
 have e2 : (R.filter (fun p => decide (b ≤ p.1))).map (·.1) = (R.map (·.1)).filter (fun k => decide (b ≤ k)) := by rw [List.filter_map]; rfl
 rw [e1, e2, h]
theorem sj (w : World) : (Instr.buildSlice 123 0 #[]).run prog w = .ok (.slice (some ⟨w.heap.size, 0, none⟩) 0 0) (w.alloc (.cells #[] 5)) := by kernel_rfl
theorem ig {γ : Type} {l : List γ} (h : l.Nodup) (i : Nat) : (l.eraseIdx i).Nodup := h.sublist (List.eraseIdx_sublist _ _)
theorem LIn.look {w : World} {X P : Nat → Prop} {lb db mb : Nat} {kv : Value} {M : List (Int × Array Value)} {L : Lg} (h : LIn w X P lb db mb kv M L) (b : Int) :
  ∃ cs, (Instr.lookup 130 (.map (some mb)) (iv b) true).run prog w = .ok (.tuple #[.agg cs, .bool (!(getD L.recs b).isNone)]) w ∧ cs.size = 16 ∧ ∀ u ∈ cs.toList, u.oneCell' = true := by
 have hl := em uc h.mp b true (z28 w)
 rcases h.get b with ⟨g1, g2⟩ | ⟨r, cs, g1, g2, g3, g4⟩
 ·rw [g2] at hl
  exact ⟨rcs rc0 nl nl nl nl nl, by rw [g1]; exact hl, rfl, dA rfl rfl rfl rfl rfl⟩
 ·rw [g2] at hl
  exact ⟨cs, by rw [g1]; exact hl, g4.now.size, g4.now.one⟩
theorem jD {w : World} {X : Nat → Prop} {lb db : Nat} {L : Lg} (h : LAt w X lb db L) (b : Int) (hb63 : -9223372036854775808 ≤ b ∧ b ≤ 9223372036854775807) :
  Cl prog 28 [pv lb, iv b] w fun v w' => v = iv (L.recycle b).2 ∧ ∃ X', LAt w' X' lb db (L.recycle b).1 ∧ (∀ y, X' y → X y ∨ w.heap.size ≤ y) ∧ Fm X w w' := by
 have hwf := h.wf.recycle b
 have h1 := h.wf.st; have h2 := h.wf.low; have h4 := h.wf.bs
 have hbo := Lg.baseOf_le h1.1
 rw [← h4] at hbo
 obtain ⟨P, mb, kv, M, hi⟩ := h.ex
 have one0 := dA (r := rc0) (vs := nl) (vm := nl) (vi := nl) (vp := nl) (vt := nl) rfl rfl rfl rfl rfl
 have hE : L.recycle b = bif decide (b < (L.start : Int)) || (decide ((L.last : Int) < b) || ((getD L.recs b).isNone && !decide (b = (L.tail : Int)))) then (L, 51)
  else ({ L with start := b.toNat, recs := L.recs.filter (fun p => decide (b ≤ p.1)), kept := L.kept.drop (Lg.baseOf b.toNat - L.base), base := Lg.baseOf b.toNat }, 0) := rfl
 refine c28 ?_; unfold T28
 simp only [RS, hi.c8]
 obtain ⟨cs0, hlk1, hlk2, hlk3⟩ := hi.look b
 refine af hlk1 ?_
 simp only [RS]
 refine ao ?_
 intro x1 w1 hx1 hs1 hw1 hf1
 refine aB hw1 rfl hlk2 hlk3 ?_
 intro w2 hw2 hs2 hf2
 have hF2 : Fm (fun _ => False) w w2 := Fm.own hf1 hf2 (by rintro y rfl; omega)
 have hi2 := hi.keep0 hF2
 have hL2 := h.keep0 hF2
 have same : ∀ {w' : World}, Fm (fun _ => False) w w' → ∃ X', LAt w' X' lb db L ∧ (∀ y, X' y → X y ∨ w.heap.size ≤ y) ∧ Fm X w w' := fun hf => ⟨X, h.keep0 hf, fun y hy => .inl hy, hf.mono (fun _ _ e => e.elim)⟩
 cases q1 : decide (b < (L.start : Int)) with
 | true =>
  rw [q1, Bool.true_or, cond_true] at hE
  rw [hE]
  simp only [RS, hi2.c5, q1]
  exact ⟨(by trivial), same hF2⟩
 | false =>
 cases q2 : decide ((L.last : Int) < b) with
 | true =>
  rw [q1, q2, Bool.true_or, Bool.false_or, cond_true] at hE
  rw [hE]
  simp only [RS, hi2.c5, hi2.c6, q1, q2]
  exact ⟨(by trivial), same hF2⟩
 | false =>
 rw [q1, q2, Bool.false_or, Bool.false_or] at hE
 rw [decide_eq_false_iff_not] at q1 q2
 obtain ⟨bn, rfl⟩ : ∃ bn : Nat, b = (bn : Int) := ⟨b.toNat, by omega⟩
 have hbn := Lg.baseOf_le (b := bn) (by omega)
 have hbm : Lg.baseOf L.start ≤ Lg.baseOf bn := by unfold Lg.baseOf; omega
 rw [← h4] at hbm
 have htl : L.tail = L.base + L.kept.length := rfl
 have hbe : Lg.baseOf bn = (bn - 1) / 54 * 54 + 1 := rfl
 simp only [Int.toNat_natCast] at hE
 have q1' : decide ((bn : Int) < (L.start : Int)) = false := by rw [decide_eq_false_iff_not]; exact q1
 have q2' : decide ((L.last : Int) < (bn : Int)) = false := by rw [decide_eq_false_iff_not]; exact q2
 cases q3 : (getD L.recs (bn : Int)).isNone with
 | false =>
  rw [q3, Bool.false_and, cond_false] at hE
  rw [hE] at hwf ⊢
  simp only at hwf ⊢
  simp only [RS, hi2.c5, hi2.c6, q1', q2', q3]
  have hiW := hi2; have hFW := hF2
  refine ay hiW.st (by show 5 < 9; decide) rfl ?_
  intro w4 hw4 hs4 hf4
  have hi4 := hiW.upd (L' := { L with start := bn }) hw4 hf4 rfl rfl
  simp only [RS, hi4.c8]
  obtain ⟨w5, hr5, hR, hf5, hs5⟩ := kL Tryz.underlying130 hi4.mp
  refine af hr5 ?_
  have hi5 := hi4.keep0 hf5
  have hmx := hi.xs.2.1
  have hF5 : Fm X w w5 := Fm.step (Fm.step (hFW.mono (fun _ _ e => e.elim)) hf4 (by rintro y rfl; exact .inl hi.xs.1)) hf5 (fun _ e => e.elim)
  have hkn : (M.map (·.1)).Nodup := hi.mp.keys
  have hfr : w.heap.size ≤ w4.heap.size := Nat.le_trans hFW.size hf4.size
  refine ⟨fun vs w' => ∃ (q : Int × Array Value → Bool) (left : List (Int × Array Value)), vs = [] ∧ RangeAt w' w4.heap.size mb iv Value.agg (M.filter q) left ∧ (left.map (·.1)).Nodup ∧ (∀ p ∈ M, q p = true ↔ ((bn : Int) ≤ p.1 ∨ p.1 ∈ left.map (·.1))) ∧ Fm (fun y => y = mb ∨ y = w4.heap.size) w5 w', fun _ w' => Go.Al.rl w' w4.heap.size mb, ⟨fun _ => true, M, rfl, by rw [List.filter_eq_self.2 (fun _ _ => rfl)]; exact hR, hkn, fun p hp => ⟨fun _ => .inr (List.mem_map.2 ⟨p, hp, rfl⟩), fun _ => rfl⟩, Fm.refl _ _⟩, ?_⟩
  rintro g w6 ⟨q, left, -, hR6, hln, hq, hf6⟩
  have hnm5 : ∀ y, X y → ¬ y = w4.heap.size := by
   rintro y hy rfl
   have := hi4.lt _ hy
   omega
  have hst6 := hf6.heap hi5.st (by rintro (e | e); exact hi.nm e.symm; exact hnm5 _ hi.xs.1 e)
  have c8 : w6.cell? ⟨lb, 8, none⟩ = some (.map (some mb)) := by rw [ag hst6]; rfl
  rcases nG (P := prog) hR6 0 with ⟨rfl, hrun⟩ | ⟨i, p, w7, hp, hrun, hR', hf', hs', hent⟩
  ·refine af hrun ?_
   simp only [RS]
   refine (dI w6 (n := bn) (by omega) (by omega)).mono ?_
   rintro _ w6 ⟨rfl, rfl⟩
   refine (cR w6 (k := (bn - 1) / 54) (by omega)).mono ?_
   rintro _ w6 ⟨rfl, rfl⟩
   have hkp6 : KpAt w6 5 kv L.kept := hi5.kp.keep hf6 (by
    rintro y hy (e | e)
    ·exact hi.km (by rw [← e]; exact hy)
    ·exact hnm5 _ (hi.xs.2.2.1 y hy) e)
   have c4 : w6.cell? ⟨lb, 4, none⟩ = some kv := by rw [ag hst6]; rfl
   have c3 : w6.cell? ⟨lb, 3, none⟩ = some (iv (L.base : Int)) := by rw [ag hst6]; rfl
   have hd6 := Fm.drew (fun _ => False) w6
   have ed : IntKind.i64.wrap (((((bn - 1) / 54 * 54 + 1 : Nat)) : Int) - (L.base : Int)) = (((bn - 1) / 54 * 54 + 1 - L.base : Nat) : Int) := by rw [ab] <;> omega
   have hsm := h.wf.small
   obtain ⟨sv', hsl, hca, _⟩ := hkp6.cells.lo (i := (bn - 1) / 54 * 54 + 1 - L.base) (by omega) .i64
   refine ⟨fun w' => Fm (fun _ => False) w6 w', hd6, ?_⟩
   simp only [RS]
   refine ⟨kv, fun w' h' => ?_, ?_⟩
   ·have := h'.cell' c4 (fun e => e)
    simp only [RS, this] <;> trivial
   refine ⟨iv (L.base : Int), fun w' h' => ?_, ?_⟩
   ·have := h'.cell' c3 (fun e => e)
    simp only [RS, this] <;> trivial
   simp only [RS, ed, hsl]
   refine af (sj _) ?_
   have hal := Fm.alloc (fun _ => False) w6.drew (.cells #[] 5)
   have hF9 := Fmf hd6 hal
   have how : (w6.drew.alloc (.cells #[] 5)).ownsRow w6.heap.size 5 1 (.slice (some ⟨w6.heap.size, 0, none⟩) 0 0) 0 [] := cZ (l := []) (n := 0) rfl (Nat.le_refl _) (Nat.zero_le _)
   refine ⟨hF9, ?_⟩
   have hz9 : w6.heap.size ≤ (w6.drew.alloc (.cells #[] 5)).heap.size := hF9.size
   obtain ⟨v', w10, hr10, ho10, hf10⟩ := dD uR (by omega) how (hca.keep hF9 (fun _ _ e => e)) (fun u hu => nd _ u (List.mem_of_mem_drop hu)) 123 (by unfold maxLen; omega) (by omega) hz9
   refine af hr10 ?_
   rw [Nat.zero_add, List.nil_append, Nat.mul_one, mw] at ho10
   have hkp10 : KpAt w10 5 v' (L.kept.drop ((bn - 1) / 54 * 54 + 1 - L.base)) := KpAt.of_own ho10
   have hlt10 := aX ho10
   have hF10 : Fm (fun _ => False) w6 w10 := Fm.own hF9 hf10 (by intro y hy; cases hy; exact Nat.le_refl _)
   have hst10 := hF10.heap hst6 (fun e => e)
   refine ay hst10 (by show 4 < 9; decide) hkp10.one ?_
   intro w11 hw11 hs11 hf11
   refine ay hw11 (by show 3 < 9; decide) rfl ?_
   intro w12 hw12 hs12 hf12
   have hFq : M.filter q = M.filter (fun p => decide ((bn : Int) ≤ p.1)) := List.filter_congr (fun p hp => by
    have hqp := hq p hp
    cases hqq : q p with
    | true => exact (decide_eq_true ((hqp.1 hqq).resolve_right (by simp))).symm
    | false => exact (decide_eq_false (fun e => by rw [hqp.2 (.inl e)] at hqq; cases hqq)).symm)
   have hmp6 := hR6.map (hkn.sublist (List.Sublist.map _ List.filter_sublist))
   rw [hFq] at hmp6
   have hlbw := hi.lt _ hi.xs.1
   have hz6 : w.heap.size ≤ w6.heap.size := Nat.le_trans hF5.size hf6.size
   have hf112 : Fm (· = lb) w10 w12 := hf11.trans hf12 (fun _ _ e => e) (fun _ _ e => e)
   have hF12 : Fm (· = lb) w6 w12 := hF10.trans hf112 (fun _ _ e => e.elim) (fun _ _ e => e)
   have a1 : Fm (fun y => y = lb ∨ y = mb ∨ w.heap.size ≤ y) w w4 := hFW.trans hf4 (fun _ _ e => e.elim) (fun _ _ e => .inl e)
   have a2 : Fm (fun y => y = lb ∨ y = mb ∨ w.heap.size ≤ y) w w5 := a1.trans hf5 (fun _ _ e => e) (fun _ _ e => e.elim)
   have a3 : Fm (fun y => y = lb ∨ y = mb ∨ w.heap.size ≤ y) w w6 := a2.trans hf6 (fun _ _ e => e) (fun x hx e => by
    rcases e with e | e
    ·exact .inr (.inl e)
    ·exact .inr (.inr (by omega)))
   have a4 : Fm (fun y => y = lb ∨ y = mb ∨ w.heap.size ≤ y) w w12 := a3.trans hF12 (fun _ _ e => e) (fun _ _ e => .inl e)
   refine ⟨(by trivial), fun y => X y ∨ v'.ownBlock = some y, ⟨hwf, P, mb, v', M.filter (fun p => decide ((bn : Int) ≤ p.1)), ⟨hw12, hkp10.keep hf112 (fun y hy e => by have := (hlt10 y hy).1; omega), hmp6.keep hF12 hi.nm, iE M L.recs hi.keys _, fun k cs hm => ?_, ⟨.inl hi.xs.1, .inl hi.xs.2.1, fun y hy => .inr hy, fun y hy => .inl (hi.xs.2.2.2 y hy)⟩, ⟨hi.ps.1, hi.ps.2.1, fun y hy hP => ?_⟩, fun y hy => ?_⟩⟩, fun y hy => ?_, Fm.step (Fm.refl X w) a4 (fun y hy => ?_)⟩
   ·obtain ⟨hm1, hm2⟩ := List.mem_filter.1 hm
    obtain ⟨r, g1, g2⟩ := hi.rec_ k cs hm1
    refine ⟨r, List.mem_filter.2 ⟨g1, hm2⟩, g2.keep a4 (fun y hy e => ?_)⟩
    have := hi.lt _ (hi.xs.2.2.2 y hy)
    rcases e with e | e | e
    ·exact hi.ps.1 (by rw [← e]; exact hy)
    ·exact hi.ps.2.1 (by rw [← e]; exact hy)
    ·omega
   ·have := hi.lt _ (hi.xs.2.2.2 y hP)
    have := (hlt10 y hy).1
    omega
   ·have e1 := hf112.size
    rcases hy with hy | hy
    ·have := hi.lt y hy
     have := hF12.size
     omega
    ·have := (hlt10 y hy).2
     omega
   ·rcases hy with hy | hy
    ·exact .inl hy
    ·have := (hlt10 y hy).1
     exact .inr (by omega)
   ·rcases hy with rfl | rfl | hy
    ·exact .inl hi.xs.1
    ·exact .inl hi.xs.2.1
    ·exact .inr hy
  ·refine af hrun ?_
   simp only [RS]
   refine af hent ?_
   have hlen : Go.Al.rl w7 w4.heap.size mb < Go.Al.rl w6 w4.heap.size mb := by
    rw [hR6.len, hR'.len]; have := kK hp; omega
   have hln' : ((left.eraseIdx i).map (·.1)).Nodup := by rw [← aY]; exact ig hln i
   have hf7 : Fm (fun y => y = mb ∨ y = w4.heap.size) w5 w7 := hf6.trans (hf'.mono (fun y _ e => .inr e)) (fun _ _ e => e) (fun _ _ e => e)
   have hst7 := hf'.heap hst6 (by intro e; exact hnm5 _ hi.xs.1 e)
   have c8' : w7.cell? ⟨lb, 8, none⟩ = some (.map (some mb)) := by rw [ag hst7]; rfl
   have hmem : ∀ k, k ∈ left.map (·.1) ↔ k = p.1 ∨ k ∈ (left.eraseIdx i).map (·.1) := by
    intro k
    constructor
    ·intro hk
     obtain ⟨x, hx, rfl⟩ := List.mem_map.1 hk
     rcases gp hp hx with rfl | hx
     ·exact .inl rfl
     ·exact .inr (List.mem_map.2 ⟨x, hx, rfl⟩)
    ·rintro (rfl | hk)
     ·exact List.mem_map.2 ⟨p, List.mem_of_getElem? hp, rfl⟩
     ·obtain ⟨x, hx, rfl⟩ := List.mem_map.1 hk
      exact List.mem_map.2 ⟨x, List.mem_of_mem_eraseIdx hx, rfl⟩
   have hnot : p.1 ∉ (left.eraseIdx i).map (·.1) := by
    intro hk
    obtain ⟨j, hj⟩ := List.getElem?_of_mem hk
    rw [← aY, List.getElem?_eraseIdx] at hj
    have hpi : (left.map (·.1))[i]? = some p.1 := by rw [List.getElem?_map, hp]; rfl
    split at hj
    ·have := (List.getElem?_inj (List.getElem?_eq_some_iff.1 hj).1 hln).1 (hj.trans hpi.symm)
     omega
    ·have := (List.getElem?_inj (List.getElem?_eq_some_iff.1 hj).1 hln).1 (hj.trans hpi.symm)
     omega
   cases q3 : decide (p.1 < (bn : Int)) with
   | false =>
    rw [decide_eq_false_iff_not] at q3
    have q3' : decide (p.1 < (bn : Int)) = false := by rw [decide_eq_false_iff_not]; exact q3
    simp only [RS, q3']
    refine ⟨⟨q, _, trivial, hR', hln', fun x hx => ?_, hf7⟩, hlen⟩
    rw [hq x hx, hmem]
    constructor
    ·rintro (h1 | h1 | h1)
     ·exact .inl h1
     ·exact .inl (by omega)
     ·exact .inr h1
    ·rintro (h1 | h1)
     ·exact .inl h1
     ·exact .inr (.inr h1)
   | true =>
    simp only [RS, q3, c8']
    rw [decide_eq_true_eq] at q3
    have hfn : ((M.filter q).map (·.1)).Nodup := hkn.sublist (List.Sublist.map _ List.filter_sublist)
    obtain ⟨w8, hr8, hR8, hf8, hs8⟩ := gl uc hR' hfn p.1 hnot 0 3
    refine af hr8 ?_
    rw [gX M hkn q p.1] at hR8
    refine ⟨⟨_, _, trivial, hR8, hln', fun x hx => ?_, hf7.trans (hf8.mono (fun y _ e => .inl e)) (fun _ _ e => e) (fun _ _ e => e)⟩, by rw [hR8.len, ← hR'.len]; exact hlen⟩
    rw [Bool.and_eq_true, hq x hx, hmem, Bool.not_eq_true', decide_eq_false_iff_not]
    constructor
    ·rintro ⟨h1, h2⟩
     rcases h1 with h1 | h1 | h1
     ·exact .inl h1
     ·exact absurd h1 h2
     ·exact .inr h1
    ·rintro (h1 | h1)
     ·exact ⟨.inl h1, by omega⟩
     ·exact ⟨.inr (.inr h1), fun e => hnot (by rw [← e]; exact h1)⟩
 | true =>
  rw [q3, Bool.true_and] at hE
  simp only [RS, hi2.c5, hi2.c6, q1', q2', q3]
  refine (cr hL2).mono ?_
  rintro _ w3 ⟨rfl, hf3⟩
  have hFW := Fmf hF2 hf3
  have hiW := hi2.keep0 hf3
  have hLW := hL2.keep0 hf3
  cases q4 : decide ((bn : Int) = (L.tail : Int)) with
  | false =>
   rw [q4, Bool.not_false, cond_true] at hE
   rw [hE]
   simp only [RS, al, q4]
   exact ⟨(by trivial), same hFW⟩
  | true =>
  rw [q4, Bool.not_true, cond_false] at hE
  rw [hE] at hwf ⊢
  simp only at hwf ⊢
  simp only [RS, al, q4]
  refine ay hiW.st (by show 5 < 9; decide) rfl ?_
  intro w4 hw4 hs4 hf4
  have hi4 := hiW.upd (L' := { L with start := bn }) hw4 hf4 rfl rfl
  simp only [RS, hi4.c8]
  obtain ⟨w5, hr5, hR, hf5, hs5⟩ := kL Tryz.underlying130 hi4.mp
  refine af hr5 ?_
  have hi5 := hi4.keep0 hf5
  have hmx := hi.xs.2.1
  have hF5 : Fm X w w5 := Fm.step (Fm.step (hFW.mono (fun _ _ e => e.elim)) hf4 (by rintro y rfl; exact .inl hi.xs.1)) hf5 (fun _ e => e.elim)
  have hkn : (M.map (·.1)).Nodup := hi.mp.keys
  have hfr : w.heap.size ≤ w4.heap.size := Nat.le_trans hFW.size hf4.size
  refine ⟨fun vs w' => ∃ (q : Int × Array Value → Bool) (left : List (Int × Array Value)), vs = [] ∧ RangeAt w' w4.heap.size mb iv Value.agg (M.filter q) left ∧ (left.map (·.1)).Nodup ∧ (∀ p ∈ M, q p = true ↔ ((bn : Int) ≤ p.1 ∨ p.1 ∈ left.map (·.1))) ∧ Fm (fun y => y = mb ∨ y = w4.heap.size) w5 w', fun _ w' => Go.Al.rl w' w4.heap.size mb, ⟨fun _ => true, M, rfl, by rw [List.filter_eq_self.2 (fun _ _ => rfl)]; exact hR, hkn, fun p hp => ⟨fun _ => .inr (List.mem_map.2 ⟨p, hp, rfl⟩), fun _ => rfl⟩, Fm.refl _ _⟩, ?_⟩
  rintro g w6 ⟨q, left, -, hR6, hln, hq, hf6⟩
  have hnm5 : ∀ y, X y → ¬ y = w4.heap.size := by
   rintro y hy rfl
   have := hi4.lt _ hy
   omega
  have hst6 := hf6.heap hi5.st (by rintro (e | e); exact hi.nm e.symm; exact hnm5 _ hi.xs.1 e)
  have c8 : w6.cell? ⟨lb, 8, none⟩ = some (.map (some mb)) := by rw [ag hst6]; rfl
  rcases nG (P := prog) hR6 0 with ⟨rfl, hrun⟩ | ⟨i, p, w7, hp, hrun, hR', hf', hs', hent⟩
  ·refine af hrun ?_
   simp only [RS]
   refine (dI w6 (n := bn) (by omega) (by omega)).mono ?_
   rintro _ w6 ⟨rfl, rfl⟩
   refine (cR w6 (k := (bn - 1) / 54) (by omega)).mono ?_
   rintro _ w6 ⟨rfl, rfl⟩
   have hkp6 : KpAt w6 5 kv L.kept := hi5.kp.keep hf6 (by
    rintro y hy (e | e)
    ·exact hi.km (by rw [← e]; exact hy)
    ·exact hnm5 _ (hi.xs.2.2.1 y hy) e)
   have c4 : w6.cell? ⟨lb, 4, none⟩ = some kv := by rw [ag hst6]; rfl
   have c3 : w6.cell? ⟨lb, 3, none⟩ = some (iv (L.base : Int)) := by rw [ag hst6]; rfl
   have hd6 := Fm.drew (fun _ => False) w6
   have ed : IntKind.i64.wrap (((((bn - 1) / 54 * 54 + 1 : Nat)) : Int) - (L.base : Int)) = (((bn - 1) / 54 * 54 + 1 - L.base : Nat) : Int) := by rw [ab] <;> omega
   have hsm := h.wf.small
   obtain ⟨sv', hsl, hca, _⟩ := hkp6.cells.lo (i := (bn - 1) / 54 * 54 + 1 - L.base) (by omega) .i64
   refine ⟨fun w' => Fm (fun _ => False) w6 w', hd6, ?_⟩
   simp only [RS]
   refine ⟨kv, fun w' h' => ?_, ?_⟩
   ·have := h'.cell' c4 (fun e => e)
    simp only [RS, this] <;> trivial
   refine ⟨iv (L.base : Int), fun w' h' => ?_, ?_⟩
   ·have := h'.cell' c3 (fun e => e)
    simp only [RS, this] <;> trivial
   simp only [RS, ed, hsl]
   refine af (sj _) ?_
   have hal := Fm.alloc (fun _ => False) w6.drew (.cells #[] 5)
   have hF9 := Fmf hd6 hal
   have how : (w6.drew.alloc (.cells #[] 5)).ownsRow w6.heap.size 5 1 (.slice (some ⟨w6.heap.size, 0, none⟩) 0 0) 0 [] := cZ (l := []) (n := 0) rfl (Nat.le_refl _) (Nat.zero_le _)
   refine ⟨hF9, ?_⟩
   have hz9 : w6.heap.size ≤ (w6.drew.alloc (.cells #[] 5)).heap.size := hF9.size
   obtain ⟨v', w10, hr10, ho10, hf10⟩ := dD uR (by omega) how (hca.keep hF9 (fun _ _ e => e)) (fun u hu => nd _ u (List.mem_of_mem_drop hu)) 123 (by unfold maxLen; omega) (by omega) hz9
   refine af hr10 ?_
   rw [Nat.zero_add, List.nil_append, Nat.mul_one, mw] at ho10
   have hkp10 : KpAt w10 5 v' (L.kept.drop ((bn - 1) / 54 * 54 + 1 - L.base)) := KpAt.of_own ho10
   have hlt10 := aX ho10
   have hF10 : Fm (fun _ => False) w6 w10 := Fm.own hF9 hf10 (by intro y hy; cases hy; exact Nat.le_refl _)
   have hst10 := hF10.heap hst6 (fun e => e)
   refine ay hst10 (by show 4 < 9; decide) hkp10.one ?_
   intro w11 hw11 hs11 hf11
   refine ay hw11 (by show 3 < 9; decide) rfl ?_
   intro w12 hw12 hs12 hf12
   have hFq : M.filter q = M.filter (fun p => decide ((bn : Int) ≤ p.1)) := List.filter_congr (fun p hp => by
    have hqp := hq p hp
    cases hqq : q p with
    | true => exact (decide_eq_true ((hqp.1 hqq).resolve_right (by simp))).symm
    | false => exact (decide_eq_false (fun e => by rw [hqp.2 (.inl e)] at hqq; cases hqq)).symm)
   have hmp6 := hR6.map (hkn.sublist (List.Sublist.map _ List.filter_sublist))
   rw [hFq] at hmp6
   have hlbw := hi.lt _ hi.xs.1
   have hz6 : w.heap.size ≤ w6.heap.size := Nat.le_trans hF5.size hf6.size
   have hf112 : Fm (· = lb) w10 w12 := hf11.trans hf12 (fun _ _ e => e) (fun _ _ e => e)
   have hF12 : Fm (· = lb) w6 w12 := hF10.trans hf112 (fun _ _ e => e.elim) (fun _ _ e => e)
   have a1 : Fm (fun y => y = lb ∨ y = mb ∨ w.heap.size ≤ y) w w4 := hFW.trans hf4 (fun _ _ e => e.elim) (fun _ _ e => .inl e)
   have a2 : Fm (fun y => y = lb ∨ y = mb ∨ w.heap.size ≤ y) w w5 := a1.trans hf5 (fun _ _ e => e) (fun _ _ e => e.elim)
   have a3 : Fm (fun y => y = lb ∨ y = mb ∨ w.heap.size ≤ y) w w6 := a2.trans hf6 (fun _ _ e => e) (fun x hx e => by
    rcases e with e | e
    ·exact .inr (.inl e)
    ·exact .inr (.inr (by omega)))
   have a4 : Fm (fun y => y = lb ∨ y = mb ∨ w.heap.size ≤ y) w w12 := a3.trans hF12 (fun _ _ e => e) (fun _ _ e => .inl e)
   refine ⟨(by trivial), fun y => X y ∨ v'.ownBlock = some y, ⟨hwf, P, mb, v', M.filter (fun p => decide ((bn : Int) ≤ p.1)), ⟨hw12, hkp10.keep hf112 (fun y hy e => by have := (hlt10 y hy).1; omega), hmp6.keep hF12 hi.nm, iE M L.recs hi.keys _, fun k cs hm => ?_, ⟨.inl hi.xs.1, .inl hi.xs.2.1, fun y hy => .inr hy, fun y hy => .inl (hi.xs.2.2.2 y hy)⟩, ⟨hi.ps.1, hi.ps.2.1, fun y hy hP => ?_⟩, fun y hy => ?_⟩⟩, fun y hy => ?_, Fm.step (Fm.refl X w) a4 (fun y hy => ?_)⟩
   ·obtain ⟨hm1, hm2⟩ := List.mem_filter.1 hm
    obtain ⟨r, g1, g2⟩ := hi.rec_ k cs hm1
    refine ⟨r, List.mem_filter.2 ⟨g1, hm2⟩, g2.keep a4 (fun y hy e => ?_)⟩
    have := hi.lt _ (hi.xs.2.2.2 y hy)
    rcases e with e | e | e
    ·exact hi.ps.1 (by rw [← e]; exact hy)
    ·exact hi.ps.2.1 (by rw [← e]; exact hy)
    ·omega
   ·have := hi.lt _ (hi.xs.2.2.2 y hP)
    have := (hlt10 y hy).1
    omega
   ·have e1 := hf112.size
    rcases hy with hy | hy
    ·have := hi.lt y hy
     have := hF12.size
     omega
    ·have := (hlt10 y hy).2
     omega
   ·rcases hy with hy | hy
    ·exact .inl hy
    ·have := (hlt10 y hy).1
     exact .inr (by omega)
   ·rcases hy with rfl | rfl | hy
    ·exact .inl hi.xs.1
    ·exact .inl hi.xs.2.1
    ·exact .inr hy
  ·refine af hrun ?_
   simp only [RS]
   refine af hent ?_
   have hlen : Go.Al.rl w7 w4.heap.size mb < Go.Al.rl w6 w4.heap.size mb := by
    rw [hR6.len, hR'.len]; have := kK hp; omega
   have hln' : ((left.eraseIdx i).map (·.1)).Nodup := by rw [← aY]; exact ig hln i
   have hf7 : Fm (fun y => y = mb ∨ y = w4.heap.size) w5 w7 := hf6.trans (hf'.mono (fun y _ e => .inr e)) (fun _ _ e => e) (fun _ _ e => e)
   have hst7 := hf'.heap hst6 (by intro e; exact hnm5 _ hi.xs.1 e)
   have c8' : w7.cell? ⟨lb, 8, none⟩ = some (.map (some mb)) := by rw [ag hst7]; rfl
   have hmem : ∀ k, k ∈ left.map (·.1) ↔ k = p.1 ∨ k ∈ (left.eraseIdx i).map (·.1) := by
    intro k
    constructor
    ·intro hk
     obtain ⟨x, hx, rfl⟩ := List.mem_map.1 hk
     rcases gp hp hx with rfl | hx
     ·exact .inl rfl
     ·exact .inr (List.mem_map.2 ⟨x, hx, rfl⟩)
    ·rintro (rfl | hk)
     ·exact List.mem_map.2 ⟨p, List.mem_of_getElem? hp, rfl⟩
     ·obtain ⟨x, hx, rfl⟩ := List.mem_map.1 hk
      exact List.mem_map.2 ⟨x, List.mem_of_mem_eraseIdx hx, rfl⟩
   have hnot : p.1 ∉ (left.eraseIdx i).map (·.1) := by
    intro hk
    obtain ⟨j, hj⟩ := List.getElem?_of_mem hk
    rw [← aY, List.getElem?_eraseIdx] at hj
    have hpi : (left.map (·.1))[i]? = some p.1 := by rw [List.getElem?_map, hp]; rfl
    split at hj
    ·have := (List.getElem?_inj (List.getElem?_eq_some_iff.1 hj).1 hln).1 (hj.trans hpi.symm)
     omega
    ·have := (List.getElem?_inj (List.getElem?_eq_some_iff.1 hj).1 hln).1 (hj.trans hpi.symm)
     omega
   cases q3 : decide (p.1 < (bn : Int)) with
   | false =>
    rw [decide_eq_false_iff_not] at q3
    have q3' : decide (p.1 < (bn : Int)) = false := by rw [decide_eq_false_iff_not]; exact q3
    simp only [RS, q3']
    refine ⟨⟨q, _, trivial, hR', hln', fun x hx => ?_, hf7⟩, hlen⟩
    rw [hq x hx, hmem]
    constructor
    ·rintro (h1 | h1 | h1)
     ·exact .inl h1
     ·exact .inl (by omega)
     ·exact .inr h1
    ·rintro (h1 | h1)
     ·exact .inl h1
     ·exact .inr (.inr h1)
   | true =>
    simp only [RS, q3, c8']
    rw [decide_eq_true_eq] at q3
    have hfn : ((M.filter q).map (·.1)).Nodup := hkn.sublist (List.Sublist.map _ List.filter_sublist)
    obtain ⟨w8, hr8, hR8, hf8, hs8⟩ := gl uc hR' hfn p.1 hnot 0 3
    refine af hr8 ?_
    rw [gX M hkn q p.1] at hR8
    refine ⟨⟨_, _, trivial, hR8, hln', fun x hx => ?_, hf7.trans (hf8.mono (fun y _ e => .inl e)) (fun _ _ e => e) (fun _ _ e => e)⟩, by rw [hR8.len, ← hR'.len]; exact hlen⟩
    rw [Bool.and_eq_true, hq x hx, hmem, Bool.not_eq_true', decide_eq_false_iff_not]
    constructor
    ·rintro ⟨h1, h2⟩
     rcases h1 with h1 | h1 | h1
     ·exact .inl h1
     ·exact absurd h1 h2
     ·exact .inr h1
    ·rintro (h1 | h1)
     ·exact ⟨.inl h1, by omega⟩
     ·exact ⟨.inr (.inr h1), fun e => hnot (by rw [← e]; exact h1)⟩
structure Pf where
 pg : Pg
 num : Int
 chg : Bool
structure Pl where
 frm : Nat
 pages : Nat
 fr : List Pf
 owed : List (Int × Int)
structure PS where
 p : Pl
 l : Lg
 d : Dk
namespace Pl
end Pl
namespace PS
end PS
abbrev PV := Pf × Value
section
variable {w w' : World} {X Q S : Nat → Prop} {pb lb db fb ob : Nat} {F : List PV} {p : Pl}
end
def wP (w : World) (y : Nat) : Option TypeId := match w.heap[y]? with
 | some (.cells _ t _) => some t
 | _ => none
theorem iu {w : World} {y : Nat} {cs : Array Value} {t : TypeId} {z : Nat × Nat} (h : w.heap[y]? = some (.cells cs t z)) : wP w y = some t := by unfold wP; rw [h]
theorem ew {w : World} {b0 sz n : Nat} {e : TypeId} {v : Value} {xs : List Value} (h : w.ownsRow b0 e sz v n xs) {y : Nat} (hy : v.ownBlock = some y) : wP w y = some e := by
 rcases h.2 with ⟨rfl, _⟩ | ⟨g, cap, cur, rfl, _, hg, _⟩
 ·cases hy
 ·cases hy; exact iu hg
section
variable {w w' : World} {Q S Y : Nat → Prop} {b0 pb lb db fb cap : Nat} {q : DkL} {v vT : Value} {F : List PV} {ys : List Value} {s : PS}
end
structure OW (w0 w : World) (lb b i j s : Nat) (v ov : Value) (C : List (Array Value)) (out : List Rc) (Q : Nat → Prop) : Prop where
 st : w.heap[lb]? = some (.cells #[pv b, iv (i : Int), iv (j : Int), iv (Lg.baseOf s : Int), stv [], iv (s : Int), iv 0, iv 0, v] 167)
 vr : w.ownsRow w0.heap.size 3 1 v out.length (out.map fun r => iv r.lsn)
 orow : w.ownsRow w0.heap.size 28 16 ov C.length (C.flatMap Array.toList)
 hl : C.length = out.length
 hC : ∀ (k : Nat) cs r, C[k]? = some cs → out[k]? = some r → Held w Q cs r
 hQ : ∀ y, Q y → w0.heap.size ≤ y ∧ y < w.heap.size ∧ y ≠ lb ∧ v.ownBlock ≠ some y ∧ ov.ownBlock ≠ some y
 hF : Fm (fun _ => False) w0 w
 lbge : w0.heap.size ≤ lb
section
variable {w0 w w' : World} {lb b i j s : Nat} {v ov : Value} {C : List (Array Value)} {out : List Rc} {Q S : Nat → Prop}
theorem OW.keep0 (h : OW w0 w lb b i j s v ov C out Q) (hf : Fm (fun _ => False) w w') : OW w0 w' lb b i j s v ov C out Q :=
 ⟨hf.heap h.st (fun e => e), ae h.vr hf (fun _ _ _ _ e => e), ae h.orow hf (fun _ _ _ _ e => e), h.hl, fun k cs r h1 h2 => (h.hC k cs r h1 h2).keep hf (fun _ _ e => e), fun y hy => by
  obtain ⟨a, b, c⟩ := h.hQ y hy
  exact ⟨a, Nat.lt_of_lt_of_le b hf.size, c⟩, Fmf h.hF hf, h.lbge⟩
theorem OW.c3 (h : OW w0 w lb b i j s v ov C out Q) : w.cell? ⟨lb, 3, none⟩ = some (iv (Lg.baseOf s : Int)) := by rw [ag h.st]; rfl
theorem OW.nv (h : OW w0 w lb b i j s v ov C out Q) : v.ownBlock ≠ some lb ∧ ov.ownBlock ≠ some lb ∧ ∀ y, v.ownBlock = some y → ov.ownBlock ≠ some y := by
 refine ⟨fun e => ?_, fun e => ?_, fun y e1 e2 => ?_⟩
 ·have := ew h.vr e
  rw [iu h.st] at this
  exact absurd (Option.some.inj this) (by decide)
 ·have := ew h.orow e
  rw [iu h.st] at this
  exact absurd (Option.some.inj this) (by decide)
 ·have := ew h.vr e1
  rw [ew h.orow e2] at this
  exact absurd (Option.some.inj this) (by decide)
theorem OW.push (h : OW w0 w lb b i j s v ov C out Q) {cs : Array Value} {r : Rc} {Q1 : Nat → Prop} (hh : Held w Q1 cs r) (hQ1 : ∀ y, Q1 y → w0.heap.size ≤ y ∧ y < w.heap.size ∧ y ≠ lb ∧ v.ownBlock ≠ some y ∧ ov.ownBlock ≠ some y) (hlen : out.length ≤ 4000000) {tl : Int} (ht : r.lsn = tl) {K : Value → World → Prop}
  (hK : ∀ ov' v' w', OW w0 w' lb b i j s v' ov' (C ++ [cs]) (out ++ [r]) (fun y => Q y ∨ Q1 y) → K ov' w') :
  RunS prog (Instr.buildSlice 49 1 #[(0, .agg cs)]) w fun t85 w_192 =>
     RunS prog (Builtin.append_ #[49, 49] 49 #[ov, t85]) w_192 fun t86 w_194 =>
     Pu (au (pv lb)) fun t89 =>
     Pu (faV 8 t89) fun t90 =>
     Ld w_194 t90 fun t91 w_198 =>
     RunS prog (Instr.buildSlice 23 1 #[(0, iv tl)]) w_198 fun t93 w_200 =>
     RunS prog (Builtin.append_ #[23, 23] 23 #[t91, t93]) w_200 fun t94 w_202 =>
     Pu (au (pv lb)) fun t95 =>
     Pu (faV 8 t95) fun t96 =>
     St 1 w_202 t96 t94 fun u_205 w_206 => K t86 w_206 := by
 obtain ⟨n1, n2, n3⟩ := h.nv
 have hz := h.hF.size
 have hhl := h.hl
 have hcl : cs.toList.length = 16 := by rw [Array.length_toList]; exact hh.now.size
 have olt : ∀ y, ov.ownBlock = some y → w0.heap.size ≤ y ∧ y < w.heap.size := aX h.orow
 have vlt : ∀ y, v.ownBlock = some y → w0.heap.size ≤ y ∧ y < w.heap.size := aX h.vr
 refine bq xh (by omega) 49 (cs := cs.toList) hcl (uD hh.now _) hh.now.one h.orow (by unfold maxLen; omega) (by omega) hz ?_
 intro ov' w1 ho1 hcase
 obtain ⟨S1, hf1, hS1, hov⟩ : ∃ S : Nat → Prop, Fm S w w1 ∧ (∀ y, S y → ov.ownBlock = some y) ∧ (∀ y, ov'.ownBlock = some y → ov.ownBlock = some y ∨ w.heap.size ≤ y) := by
  rcases hcase with ⟨q, k1, k2, k3⟩ | ⟨q, k1, k2, k3⟩
  ·exact ⟨_, k3, fun y e => by rw [e]; exact k1, fun y hy => by rw [k2] at hy; cases hy; exact .inl k1⟩
  ·exact ⟨_, k3, fun _ e => e.elim, fun y hy => by rw [k1] at hy; cases hy; exact .inr k2⟩
 have hst1 := hf1.heap h.st (fun e => n2 (hS1 _ e))
 have hv1 := ae h.vr hf1 (fun y _ _ hy e => n3 y hy (hS1 y e))
 have z1 := hf1.size
 have c8 : w1.cell? ⟨lb, 8, none⟩ = some v := by rw [ag hst1]; rfl
 simp only [RS, c8]
 refine bq vP (by omega) 23 (cs := [iv tl]) rfl (rv _ _) (by intro u hu; simp at hu; subst hu; rfl) hv1 (by unfold maxLen; omega) (by omega) (by omega) ?_
 intro v' w2 hv2 hcase2
 obtain ⟨S2, hf2, hS2, hvv⟩ : ∃ S : Nat → Prop, Fm S w1 w2 ∧ (∀ y, S y → v.ownBlock = some y) ∧ (∀ y, v'.ownBlock = some y → v.ownBlock = some y ∨ w1.heap.size ≤ y) := by
  rcases hcase2 with ⟨q, k1, k2, k3⟩ | ⟨q, k1, k2, k3⟩
  ·exact ⟨_, k3, fun y e => by rw [e]; exact k1, fun y hy => by rw [k2] at hy; cases hy; exact .inl k1⟩
  ·exact ⟨_, k3, fun _ e => e.elim, fun y hy => by rw [k1] at hy; cases hy; exact .inr k2⟩
 have hst2 := hf2.heap hst1 (fun e => n1 (hS2 _ e))
 have hlb1 := aq h.st
 have ho2 := ae ho1 hf2 (fun y _ hy1 hy e => by
  have h1 := hS2 y e
  rcases hov y hy with q | q
  ·exact n3 y h1 q
  ·have := (vlt y h1).2; omega)
 have z2 := hf2.size
 refine ay hst2 (by show 8 < 9; decide) (aF hv2) ?_
 intro w3 hw3 hs3 hf3
 replace hw3 : w3.heap[lb]? = some (.cells #[pv b, iv (i : Int), iv (j : Int), iv (Lg.baseOf s : Int), stv [], iv (s : Int), iv 0, iv 0, v'] 167) := hw3
 have hv'n : ∀ y, v'.ownBlock = some y → ¬ y = lb := fun y hy e => by
  rcases hvv y hy with q | q
  ·exact n1 (by rw [q, e])
  ·omega
 have ho'n : ∀ y, ov'.ownBlock = some y → ¬ y = lb := fun y hy e => by
  rcases hov y hy with q | q
  ·exact n2 (by rw [q, e])
  ·omega
 have hF3 : Fm (fun _ => False) w0 w3 := Fm.own (Fm.own (Fm.own h.hF hf1 (fun y e => (olt y (hS1 y e)).1)) hf2 (fun y e => (vlt y (hS2 y e)).1)) hf3 (by rintro y rfl; exact h.lbge)
 have hQall : ∀ y, (Q y ∨ Q1 y) → w0.heap.size ≤ y ∧ y < w.heap.size ∧ y ≠ lb ∧ v.ownBlock ≠ some y ∧ ov.ownBlock ≠ some y := fun y hy => hy.elim (h.hQ y) (hQ1 y)
 have hkeep : ∀ {P : Nat → Prop} {cs' : Array Value} {r' : Rc}, Held w P cs' r' → (∀ y, P y → Q y ∨ Q1 y) → Held w3 (fun y => Q y ∨ Q1 y) cs' r' := fun hh' hP =>
  (((hh'.keep hf1 (fun y hy e => (hQall y (hP y hy)).2.2.2.2 (hS1 y e))).keep hf2 (fun y hy e => (hQall y (hP y hy)).2.2.2.1 (hS2 y e))).keep hf3 (fun y hy e => (hQall y (hP y hy)).2.2.1 e)).mono hP
 refine hK ov' v' w3 ⟨hw3, ?_, ?_, by rw [List.length_append, List.length_append, hhl]; rfl, ?_, ?_, hF3, h.lbge⟩
 ·have := ae hv2 hf3 (fun y _ _ hy => hv'n y hy)
  rw [List.length_append, List.map_append]
  simpa [ht] using this
 ·have := ae ho2 hf3 (fun y _ _ hy => ho'n y hy)
  rw [List.length_append, List.flatMap_append]
  simpa using this
 ·intro q cs' r' h1 h2
  rw [List.getElem?_append] at h1 h2
  rw [hhl] at h1
  by_cases hq : q < out.length
  ·rw [if_pos hq] at h1 h2
   exact hkeep (h.hC q cs' r' h1 h2) (fun y hy => .inl hy)
  ·rw [if_neg hq] at h1 h2
   obtain ⟨rfl, rfl⟩ : cs = cs' ∧ r = r' := by
    cases hqq : q - out.length with
    | zero => rw [hqq] at h1 h2; simp at h1 h2; exact ⟨h1, h2⟩
    | succ _ => rw [hqq] at h1; simp at h1
   exact hkeep hh (fun y hy => .inr hy)
 ·intro y hy
  obtain ⟨p1, p2, p3, p4, p5⟩ := hQall y hy
  refine ⟨p1, by omega, p3, fun e => ?_, fun e => ?_⟩
  ·rcases hvv y e with q | q
   ·exact p4 q
   ·omega
  ·rcases hov y e with q | q
   ·exact p5 q
   ·omega
end
theorem uV (db : Nat) (frm n a b : Int) (w : World) : (Instr.build 167 #[(0, pv db), (1, iv frm), (2, iv n), (5, iv b), (3, iv a)]).run prog w = .ok (.agg #[pv db, iv frm, iv n, iv a, stv [], iv b, iv 0, iv 0, .slice none 0 0]) w := by kernel_rfl
theorem lU {w : World} {b : Nat} {q : DkL} {d : Dk} (h : DkAt w b q d) : Cl prog 142 [pv b] w fun v w' => v = .bool d.gone ∧ w' = w := by
 refine c142 ?_; unfold T142
 simp only [RS, h.c4]
 exact ⟨(by trivial), (by trivial)⟩
structure ROk (w w' : World) (p ov : Value) (db : Nat) (L : Lg) (out : List Rc) : Prop where
 ex : ∃ (lb : Nat) (v : Value) (C : List (Array Value)), p = pv lb ∧ RL w' 0 lb db v L ∧ Str L ∧ (∀ y, RL.mine lb v y → w.heap.size ≤ y) ∧ w'.ownsRow w.heap.size 28 16 ov C.length (C.flatMap Array.toList) ∧ C.length = out.length ∧ ∀ (k : Nat) cs r, C[k]? = some cs → out[k]? = some r → RcAs w' cs r
structure OG (s : Nat) (all : Bs) (e : Nat) (out : List Rc) : Prop where
 ok : ∀ r ∈ out, (rCheck r).2 = 0 ∧ (∀ m ∈ r.imgs, m.2.lsn ≤ 9223372036854775807) ∧ (s : Int) ≤ r.lsn ∧ r.lsn < ((Lg.baseOf s + e : Nat) : Int)
 str : ∀ r ∈ out, ∃ (x : Nat) (t : Bs), r.lsn = ((Lg.baseOf s + x : Nat) : Int) ∧ all.drop x = (rEnc r).1 ++ t ∧ x + (rEnc r).1.length ≤ e
 inc : (out.map (·.lsn)).Pairwise (· < ·)
 le : e ≤ all.length
 ah : aheadOf s ≤ e
theorem OG.str' {s : Nat} {all : Bs} {e : Nat} {out : List Rc} (h : OG s all e out) {i j : Nat} : Str ⟨i, j, Lg.baseOf s, all.take e, s, Lg.baseOf s + e, 0, keyed out⟩ := by
 intro p hp
 obtain ⟨r, hr, rfl⟩ := List.mem_map.1 hp
 obtain ⟨x, t, h1, h2, h3⟩ := h.str r hr
 refine ⟨t.take (e - x - (rEnc r).1.length), ?_⟩
 show (all.take e).drop (r.lsn.toNat - Lg.baseOf s) = (rEnc r).1 ++ _
 rw [h1, Int.toNat_natCast, show Lg.baseOf s + x - Lg.baseOf s = x by omega, List.drop_take, h2, List.take_append, List.take_of_length_le (by omega)]
theorem OG.wf {i j s : Nat} {all : Bs} {e : Nat} {out : List Rc} (h : OG s all e out) (hj : 4 ≤ j) (hij : i + j ≤ 65536) (hs : 1 ≤ s) (hal : all.length ≤ 4000000) (hbe : Lg.baseOf s + e ≤ 9223372036854775807) : (⟨i, j, Lg.baseOf s, all.take e, s, Lg.baseOf s + e, 0, keyed out⟩ : Lg).Wf := by
 have hb := Lg.baseOf_le hs
 have hah := h.ah
 have hah' : aheadOf s = s - Lg.baseOf s := rfl
 have hlen : (all.take e).length = e := by have := h.le; rw [List.length_take]; omega
 have hle := h.le
 have ht : (⟨i, j, Lg.baseOf s, all.take e, s, Lg.baseOf s + e, 0, keyed out⟩ : Lg).tail = Lg.baseOf s + e := by show Lg.baseOf s + (all.take e).length = _; rw [hlen]
 refine ⟨hj, hij, rfl, ⟨hs, ?_, by rw [ht]; exact Nat.le_refl _⟩, by show (all.take e).length ≤ _; omega, by rw [ht]; exact hbe, fun h => ?_, ⟨Int.le_refl _, by show (0 : Int) ≤ _; omega⟩, ?_⟩
 ·show s ≤ Lg.baseOf s + e
  omega
 ·rw [ht] at h
  exact absurd h (Nat.lt_irrefl _)
 ·intro p hp
  obtain ⟨r, hr, rfl⟩ := List.mem_map.1 hp
  obtain ⟨h1, h2, h3, h4⟩ := h.ok r hr
  rw [ht]
  exact ⟨rfl, h1, h2, h3, h4⟩
theorem me {w : World} {b : Nat} {q : DkL} {d : Dk} (h : DkAt w b q d) (hdw : d.Wf) (frm n start : Int) (hst : start ≤ 9223372036854775807) :
  Cl prog 75 [pv b, iv frm, iv n, iv start] w fun v w' => ∃ p ov, v = .tuple #[p, ov, iv (fh d frm n start).2] ∧ DkAt w' b q (fh d frm n start).1 ∧ Fm (q.mine b) w w' ∧
   ((fh d frm n start).2 ≠ 0 → p = .pointer none ∧ ov = nl) ∧ ((fh d frm n start).2 = 0 → ROk w w' p ov b (ms d frm.toNat n.toNat start.toNat) (iH d frm.toNat n.toNat start.toNat).1) := by
 have hn := hdw.n1
 have hlt := h.lt
 have up : ∀ {w1 : World}, Fm (fun _ => False) w w1 → Fm (q.mine b) w w1 := fun hf => hf.mono (fun _ _ e => e.elim)
 have bad : ∀ {w1 : World} {er : Int}, Fm (fun _ => False) w w1 → er ≠ 0 → fh d frm n start = (d, er) → ∃ p ov, Value.tuple #[.pointer none, nl, iv er] = .tuple #[p, ov, iv (fh d frm n start).2] ∧ DkAt w1 b q (fh d frm n start).1 ∧ Fm (q.mine b) w w1 ∧
   ((fh d frm n start).2 ≠ 0 → p = .pointer none ∧ ov = nl) ∧ ((fh d frm n start).2 = 0 → ROk w w1 p ov b (ms d frm.toNat n.toNat start.toNat) (iH d frm.toNat n.toNat start.toNat).1) := fun hf he hE => by
  rw [hE]
  exact ⟨_, _, rfl, h.keep0 hf, up hf, fun _ => ⟨rfl, rfl⟩, fun e => absurd e he⟩
 have hE : fh d frm n start = bif !(dn d frm n) || decide (start < 1) then (d, 1) else bif d.gone then (d, 5) else
  bif decide ((aC d frm.toNat n.toNat ((start.toNat - 1) / 54) n.toNat 0 []).2 = 0) then (ms d frm.toNat n.toNat start.toNat).wipe d else (d, (aC d frm.toNat n.toNat ((start.toNat - 1) / 54) n.toNat 0 []).2) := rfl
 refine c75 ?_; unfold T75
 refine (hZ h hdw).mono ?_
 rintro _ w0 ⟨rfl, rfl⟩
 cases hfi : dn d frm n with
 | false =>
  rw [hfi, Bool.not_false, Bool.true_or, cond_true] at hE
  simp only [RS, Bool.not_false]
  exact bad (Fm.refl _ _) (by decide) hE
 | true =>
 cases e1 : decide (start < 1) with
 | true =>
  rw [e1, Bool.or_true, cond_true] at hE
  simp only [RS, Bool.not_true, e1]
  exact bad (Fm.refl _ _) (by decide) hE
 | false =>
 rw [hfi, e1, Bool.not_true, Bool.or_self, cond_false] at hE
 simp only [RS, Bool.not_true, e1]
 refine (lU h).mono ?_
 rintro _ w0 ⟨rfl, rfl⟩
 cases hg : d.gone with
 | true =>
  rw [hg, cond_true] at hE
  simp only [RS]
  exact bad (Fm.refl _ _) (by decide) hE
 | false =>
 rw [hg, cond_false] at hE
 unfold dn at hfi
 simp only [Bool.and_eq_true, decide_eq_true_eq] at hfi
 obtain ⟨f1, f2, f3, f4⟩ := hfi
 rw [decide_eq_false_iff_not] at e1
 obtain ⟨j, rfl⟩ := Int.eq_ofNat_of_zero_le (show 0 ≤ n by omega)
 obtain ⟨i, rfl⟩ := Int.eq_ofNat_of_zero_le f2
 obtain ⟨s, rfl⟩ := Int.eq_ofNat_of_zero_le (show 0 ≤ start by omega)
 simp only [Int.toNat_natCast] at hE bad ⊢
 have hs : 1 ≤ s := by omega
 have hj : 4 ≤ j := by omega
 have hij : i + j ≤ 65536 := by omega
 have hb := Lg.baseOf_le hs
 have a1 : IntKind.i64.wrap ((s : Int) - 1) = ((s - 1 : Nat) : Int) := by rw [ab] <;> omega
 have a2 := cu (TypeDesc.int .i64) (n := s - 1) (m := 54) (by decide) (by omega) (b := 54) rfl
 have a3 : IntKind.i64.wrap ((((s - 1) / 54 : Nat) : Int) * 54) = (((s - 1) / 54 * 54 : Nat) : Int) := by rw [ab] <;> omega
 have a4 : IntKind.i64.wrap ((((s - 1) / 54 * 54 : Nat) : Int) + 1) = ((Lg.baseOf s : Nat) : Int) := by unfold Lg.baseOf; rw [ab] <;> omega
 simp only [RS, a1, a2, a3, a4]
 refine af (uV b _ _ _ _ _) ?_
 refine ao ?_
 intro lb w2 hlb hs2 hw2 hf2
 replace hw2 : w2.heap[lb]? = some (.cells #[pv b, iv (i : Int), iv (j : Int), iv (Lg.baseOf s : Int), stv [], iv (s : Int), iv 0, iv 0, .slice none 0 0] 167) := hw2
 have hh2 : Hd w2 lb b i j := ⟨by rw [ag hw2]; rfl, by rw [ag hw2]; rfl, by rw [ag hw2]; rfl⟩
 refine (kW hw2 hh2 hij hj (h.keep0 hf2) hdw hs (by omega)).mono ?_
 rintro _ w3 ⟨rfl, hf3⟩
 have hF3 := Fmf hf2 hf3
 obtain ⟨ha1, ha2⟩ := jd d i j s (by omega) hs
 have hw3 := hf3.heap hw2 (fun e => e)
 have hOW3 : OW w0 w3 lb b i j s (.slice none 0 0) (.slice none 0 0) [] [] (fun _ => False) := ⟨hw3, World.ownsRow_nil _ _ _ _, World.ownsRow_nil _ _ _ _, rfl, fun k cs r h1 _ => by simp at h1, fun y hy => hy.elim, hF3, by omega⟩
 have ea : IntKind.i64.wrap ((s : Int) - (Lg.baseOf s : Int)) = ((aheadOf s : Nat) : Int) := by unfold aheadOf; rw [ab] <;> omega
 have hahd : aheadOf s = s - Lg.baseOf s := rfl
 simp only [RS, al]
 cases hz : decide ((aC d i j ((s - 1) / 54) j 0 []).2 = 0) with
 | false =>
  rw [hz, cond_false] at hE
  rw [decide_eq_false_iff_not] at hz
  simp only [RS, Bool.not_false]
  exact bad hF3 hz hE
 | true =>
 rw [hz, cond_true] at hE
 simp only [RS, Bool.not_true, hOW3.c3, ea]
 refine bG (fun vs w4 => ∃ (ov v : Value) (C : List (Array Value)) (out : List Rc) (Q : Nat → Prop) (e : Nat), vs = [ov, iv ((Lg.baseOf s + e : Nat) : Int)] ∧ iH d i j s = (out, e) ∧ OG s (be d i j s) e out ∧ Lg.baseOf s + e ≤ 9223372036854775807 ∧
   w4.heap[lb]? = some (.cells #[pv b, iv (i : Int), iv (j : Int), iv (Lg.baseOf s : Int), stv ((be d i j s).take e), iv (s : Int), iv 0, iv 0, v] 167) ∧ w4.ownsRow w0.heap.size 3 1 v out.length (out.map fun r => iv r.lsn) ∧ w4.ownsRow w0.heap.size 28 16 ov C.length (C.flatMap Array.toList) ∧ C.length = out.length ∧
   (∀ (k : Nat) cs r, C[k]? = some cs → out[k]? = some r → Held w4 Q cs r) ∧ (∀ y, Q y → w0.heap.size ≤ y ∧ y ≠ lb) ∧ Fm (fun _ => False) w0 w4) ?_ ?_
 ·rintro _ w4 ⟨ov, v, C, out, Q, e, rfl, hS, hOG, hbe, hst4, hv4, ho4, hCl, hC, hQ, hF4⟩ _
  refine ⟨_, _, rfl, ?_⟩
  have hLL : ms d i j s = ⟨i, j, Lg.baseOf s, (be d i j s).take e, s, Lg.baseOf s + e, 0, keyed out⟩ := by unfold ms; rw [hS]
  have hwf := hOG.wf hj hij hs ha2 hbe
  have hstr := hOG.str' (i := i) (j := j)
  rw [hLL] at hE ⊢
  try simp only [RS]
  refine ay hst4 (by show 6 < 9; decide) rfl ?_
  intro w5 hw5 hs5 hf5
  have hvn : v.ownBlock ≠ some lb := fun e => by
   have := ew hv4 e
   rw [iu hst4] at this
   exact absurd (Option.some.inj this) (by decide)
  have hon : ov.ownBlock ≠ some lb := fun e => by
   have := ew ho4 e
   rw [iu hst4] at this
   exact absurd (Option.some.inj this) (by decide)
  have hRL : RL w5 0 lb b v ⟨i, j, Lg.baseOf s, (be d i j s).take e, s, Lg.baseOf s + e, 0, keyed out⟩ := by
   refine ⟨hwf, ?_, hw5, ?_⟩
   ·show ((keyed out).map (·.1)).Pairwise (· < ·)
    unfold keyed
    rw [List.map_map]
    exact hOG.inc
   ·show w5.ownsRow 0 3 1 v (keyed out).length (plsV ⟨i, j, Lg.baseOf s, (be d i j s).take e, s, Lg.baseOf s + e, 0, keyed out⟩)
    have e1 : (keyed out).length = out.length := by unfold keyed; simp
    have e2 : plsV ⟨i, j, Lg.baseOf s, (be d i j s).take e, s, Lg.baseOf s + e, 0, keyed out⟩ = out.map fun r => iv r.lsn := by unfold plsV keyed; simp
    rw [e1, e2]
    exact aW (ae hv4 hf5 (fun y _ _ hy e => hvn (by rw [hy, e]))) (Nat.zero_le _)
  have hmine : ∀ y, RL.mine lb v y → w0.heap.size ≤ y := by
   rintro y (rfl | hy)
   ·omega
   ·exact (aX hv4 y hy).1
  have hF5 : Fm (fun _ => False) w0 w5 := Fm.own hF4 hf5 (by rintro y rfl; omega)
  have ho5 := ae ho4 hf5 (fun y _ _ hy e => hon (by rw [hy, e]))
  generalize (⟨i, j, Lg.baseOf s, (be d i j s).take e, s, Lg.baseOf s + e, 0, keyed out⟩ : Lg) = L at hE hRL hstr ⊢
  refine (mh hRL (h.keep0 hF5) hdw (fun y hy e => by have := hmine y hy; have := hlt y e; omega)).mono ?_
  rintro _ w6 ⟨rfl, hRL6, hd6, hf6⟩
  have hF6 := (up hF5).trans hf6 (fun _ _ e => e) (fun _ _ e => e)
  simp only [RS, al]
  cases hz2 : decide ((L.wipe d).2 = 0) with
  | false =>
   rw [decide_eq_false_iff_not] at hz2
   simp only [RS, Bool.not_false]
   exact ⟨_, _, by rw [hE], by rw [hE]; exact hd6, hF6, fun _ => ⟨rfl, rfl⟩, fun e => absurd (by rw [hE] at e; exact e) hz2⟩
  | true =>
   rw [decide_eq_true_eq] at hz2
   simp only [RS, Bool.not_true]
   refine ⟨_, _, by rw [hE, hz2], by rw [hE]; exact hd6, hF6, fun e => absurd (by rw [hE]; exact hz2) e, fun _ => ⟨lb, v, C, rfl, hRL6, hstr, hmine, ae ho5 hf6 (fun y hy _ _ e => by have := hlt y e; omega), by rw [hS]; exact hCl, fun k cs r h1 h2 => ?_⟩⟩
   rw [hS] at h2
   exact (((hC k cs r h1 h2).keep hf5 (fun y hy e => (hQ y hy).2 e)).keep hf6 (fun y hy e => by have := (hQ y hy).1; have := hlt y e; omega)).now
 ·intro jj hjj
  have hall : be d i j s = bif decide ((aC d i j ((s - 1) / 54) j 0 []).1.length < aheadOf s) then aG (aheadOf s) else (aC d i j ((s - 1) / 54) j 0 []).1 := rfl
  have hSS : iH d i j s = fe (Lg.baseOf s) (be d i j s) ((be d i j s).length + 1) (aheadOf s) [] := rfl
  have dl : decide (((aheadOf s : Nat) : Int) ≤ ((aC d i j ((s - 1) / 54) j 0 []).1.length : Int)) = !decide ((aC d i j ((s - 1) / 54) j 0 []).1.length < aheadOf s) := by
   rw [← decide_not, decide_eq_decide]; omega
  simp only [RS, aj, dl]
  cases hq : decide ((aC d i j ((s - 1) / 54) j 0 []).1.length < aheadOf s) with
  | true =>
   rw [hq, cond_true] at hall
   rw [hall] at hSS hjj
   have hzl : (aG (aheadOf s)).length = aheadOf s := Lg.zeros_len' _
   have hS : iH d i j s = ([], aheadOf s) := by
    rw [hSS]
    refine gG _ _ _ _ _ ?_
    rw [List.drop_eq_nil_of_le (by omega), rj]
   simp only [RS, Bool.not_true]
   refine af (BRow.make B44 w3 (aheadOf s) (by omega)) ?_
   have hf4 := Fm.alloc (fun _ => False) w3 (.cells (bc (List.replicate (aheadOf s) 0)).toArray 5)
   have hb4 : BRow (w3.alloc (.cells (bc (List.replicate (aheadOf s) 0)).toArray 5)) w3.heap.size 5 (List.replicate (aheadOf s) 0) := az _ _
   generalize w3.alloc (.cells (bc (List.replicate (aheadOf s) 0)).toArray 5) = w4 at hf4 hb4
   refine af (hb4.conv B44 (o := 0) (n := aheadOf s) (by simp) _) ?_
   rw [show (((List.replicate (aheadOf s) 0).drop 0).take (aheadOf s) : Bs) = aG (aheadOf s) from by rw [List.drop_zero, List.take_of_length_le (by simp)]; rfl]
   have hOW4 := hOW3.keep0 hf4
   try simp only [RS]
   refine ay hOW4.st (by show 4 < 9; decide) rfl ?_
   intro w5 hw5 hs5 hf5
   have hsv : iv (s : Int) = iv ((Lg.baseOf s + aheadOf s : Nat) : Int) := by congr 1; omega
   refine hjj _ _ ⟨nl, nl, [], [], fun _ => False, aheadOf s, by rw [← hsv], hS, ⟨(fun r hr => by cases hr), (fun r hr => by cases hr), List.Pairwise.nil, by omega, Nat.le_refl _⟩, by omega, ?_, World.ownsRow_nil _ _ _ _, World.ownsRow_nil _ _ _ _, rfl, (fun k cs r h1 _ => by simp at h1), fun y hy => hy.elim, Fm.own hOW4.hF hf5 (by rintro y rfl; omega)⟩
   rw [List.take_of_length_le (by omega)]
   exact hw5
  | false =>
  rw [hq, cond_false] at hall
  rw [hall] at hSS hjj ha1 ha2
  generalize (aC d i j ((s - 1) / 54) j 0 []).1 = all at hSS hjj ha1 ha2
  clear hall dl hq
  simp only [RS, Bool.not_false]
  refine ⟨fun vs w' => ∃ (e f : Nat) (out : List Rc) (C : List (Array Value)) (ov v : Value) (Q : Nat → Prop), vs = [ov, iv ((Lg.baseOf s + e : Nat) : Int)] ∧ all.length < e + f ∧ (e = aheadOf s ∨ Lg.baseOf s + e ≤ 4611686018427500000) ∧ OG s all e out ∧ out.length ≤ e ∧ fe (Lg.baseOf s) all f e out = iH d i j s ∧ OW w0 w' lb b i j s v ov C out Q,
   fun vs _ => ((Lg.baseOf s : Int) + all.length - nth vs 1).toNat, ⟨aheadOf s, all.length + 1, [], [], _, _, _, by rw [show ((Lg.baseOf s + aheadOf s : Nat) : Int) = (s : Int) by omega], by omega, .inl rfl, ⟨(fun r hr => by cases hr), (fun r hr => by cases hr), List.Pairwise.nil, ha1, Nat.le_refl _⟩, by simp, hSS.symm, hOW3⟩, ?_⟩
  rintro _ w5 ovv tlv ⟨e, f, out, C, ov', v, Q, hvs, hf, hbe, hOG, hoe, hsc, hOW5⟩
  cases hvs
  have hle := hOG.le
  have hae := hOG.ah
  have eb : IntKind.i64.wrap (((Lg.baseOf s + e : Nat) : Int) - (Lg.baseOf s : Int)) = ((e : Nat) : Int) := by rw [ab] <;> omega
  have es := cQ (l := all) (i := e) (by omega) .i64
  have es2 := df (l := all) (i := e) (by omega) .i64
  simp only [RS, hOW5.c3, eb, es]
  refine (fW w5 (all.drop e) (by rw [List.length_drop]; omega)).mono ?_
  rintro _ w6 ⟨cs, rfl, hok, hf6⟩
  have hOW6 := hOW5.keep0 hf6
  have hcz := hok.as.size
  have hone := hok.as.one
  simp only [RS]
  refine ao ?_
  intro x w7 hx hs7 hw7 hf7
  refine aB hw7 rfl hcz hone ?_
  intro w8 hw8 hs8 hf8
  have hf68 : Fm (fun _ => False) w6 w8 := Fm.own hf7 hf8 (by rintro y rfl; omega)
  have hOW8 := hOW6.keep0 hf68
  cases hrd : (cA (all.drop e)).1 with
  | none =>
   have hne : ((cA (all.drop e)).2.2 != 0) = true := by
    obtain ⟨_, h1 | h1 | h1⟩ := nq hrd <;> rw [h1] <;> rfl
   have hS : iH d i j s = (out, e) := by rw [← hsc]; exact gG _ _ _ _ _ hrd
   simp only [RS, hne, hOW8.c3, eb, es2]
   refine ay hOW8.st (by show 4 < 9; decide) rfl ?_
   intro w9 hw9 hs9 hf9
   obtain ⟨n1, n2, n3⟩ := hOW8.nv
   exact hjj _ _ ⟨ovv, v, C, out, Q, e, rfl, hS, hOG, by omega, hw9, ae hOW8.vr hf9 (fun y _ _ hy e => n1 (by rw [hy, e])), ae hOW8.orow hf9 (fun y _ _ hy e => n2 (by rw [hy, e])), hOW8.hl, fun k cs r h1 h2 => (hOW8.hC k cs r h1 h2).keep hf9 (fun y hy e => (hOW8.hQ y hy).2.2.1 e), fun y hy => ⟨(hOW8.hQ y hy).1, (hOW8.hQ y hy).2.2.1⟩, Fm.own hOW8.hF hf9 (by rintro y rfl; omega)⟩
  | some r =>
  obtain ⟨ds1, ds2, ds3, ds4, ds5, ds6⟩ := ll hrd
  rw [hrd] at hok
  have hheld6 := hok.held
  obtain ⟨vs, vm, vi, vp, vt, rfl, hrows, _⟩ := hok
  have cx : w8.cell? ⟨x, 0, none⟩ = some (iv r.lsn) := by rw [ag hw8]; rfl
  have hne : ((cA (all.drop e)).2.2 != 0) = false := by rw [ds2]; rfl
  cases hl : decide (r.lsn = ((Lg.baseOf s + e : Nat) : Int)) with
  | false =>
   have hl' := hl
   rw [decide_eq_false_iff_not] at hl'
   have hS : iH d i j s = (out, e) := by rw [← hsc]; exact mS _ _ _ _ _ hrd hl'
   simp only [RS, hne, cx, al, hl, Bool.not_false, hOW8.c3, eb, es2]
   refine ay hOW8.st (by show 4 < 9; decide) rfl ?_
   intro w9 hw9 hs9 hf9
   obtain ⟨n1, n2, n3⟩ := hOW8.nv
   exact hjj _ _ ⟨ovv, v, C, out, Q, e, rfl, hS, hOG, by omega, hw9, ae hOW8.vr hf9 (fun y _ _ hy e => n1 (by rw [hy, e])), ae hOW8.orow hf9 (fun y _ _ hy e => n2 (by rw [hy, e])), hOW8.hl, fun k cs r h1 h2 => (hOW8.hC k cs r h1 h2).keep hf9 (fun y hy e => (hOW8.hQ y hy).2.2.1 e), fun y hy => ⟨(hOW8.hQ y hy).1, (hOW8.hQ y hy).2.2.1⟩, Fm.own hOW8.hF hf9 (by rintro y rfl; omega)⟩
  | true =>
  have hlen := Lg.enc_len ds1 ds6.lsns
  have ds4' := ds4
  rw [List.length_drop] at ds4'
  obtain ⟨f', rfl⟩ : ∃ f', f = f' + 1 := ⟨f - 1, by omega⟩
  rw [fe, hrd] at hsc
  simp only [hl, cond_true] at hsc
  rw [decide_eq_true_eq] at hl
  have hlsn : r.lsn ≤ 4611686018427387904 := (ds6.nums r.lsn (by unfold rNums; simp)).2
  have e5 : IntKind.i64.wrap (((Lg.baseOf s + e : Nat) : Int) + ((cA (all.drop e)).2.1 : Int)) = ((Lg.baseOf s + (e + (cA (all.drop e)).2.1) : Nat) : Int) := by rw [ab] <;> omega
  have z6 := hf6.size; have z68 := hf68.size
  have hheld8 := hheld6.keep hf68 (fun _ _ e => e)
  have hd0 : decide (r.lsn = ((Lg.baseOf s + e : Nat) : Int)) = true := by rw [decide_eq_true_eq]; exact hl
  have hvl := aX hOW5.vr
  have hol := aX hOW5.orow
  have hlb5 := aq hOW5.st
  have hF5 := hOW5.hF.size
  simp only [RS, hne, cx, al, hd0, Bool.not_true, ax hw8 (n := 16) rfl]
  have hh := hOW8.push (cs := rcs r vs vm vi vp vt) (r := r) hheld8 (fun y hy => ⟨by omega, by omega, by omega, fun e => by have := (hvl y e).2; omega, fun e => by have := (hol y e).2; omega⟩) (by omega) hl
   (K := fun t86 w' => Pu (aa (TypeDesc.int .i64) .add (iv ((Lg.baseOf s + e : Nat) : Int)) (iv ((cA (all.drop e)).2.1 : Int))) fun t99 => (∃ (e f : Nat) (out : List Rc) (C : List (Array Value)) (ov v : Value) (Q : Nat → Prop), [t86, t99] = [ov, iv ((Lg.baseOf s + e : Nat) : Int)] ∧ all.length < e + f ∧ (e = aheadOf s ∨ Lg.baseOf s + e ≤ 4611686018427500000) ∧ OG s all e out ∧ out.length ≤ e ∧ fe (Lg.baseOf s) all f e out = iH d i j s ∧ OW w0 w' lb b i j s v ov C out Q) ∧ ((Lg.baseOf s : Int) + all.length - nth [t86, t99] 1).toNat < ((Lg.baseOf s : Int) + all.length - nth [ovv, iv ((Lg.baseOf s + e : Nat) : Int)] 1).toNat)
   (fun ov9 v9 w9 hOW9 => by
    simp only [RS, e5]
    refine ⟨⟨e + (cA (all.drop e)).2.1, f', out ++ [r], _, ov9, v9, _, rfl, by omega, .inr (by omega), ⟨?_, ?_, ?_, by omega, by omega⟩, by rw [List.length_append]; simp; omega, hsc, hOW9⟩, by simp only [bM]; omega⟩
    ·intro q hq
     rcases List.mem_append.1 hq with hq | hq
     ·obtain ⟨p1, p2, p3, p4⟩ := hOG.ok q hq
      exact ⟨p1, p2, p3, by omega⟩
     ·simp only [List.mem_singleton] at hq
      subst hq
      exact ⟨ds1, ds6.lsns, by omega, by omega⟩
    ·intro q hq
     rcases List.mem_append.1 hq with hq | hq
     ·obtain ⟨x', t, p1, p2, p3⟩ := hOG.str q hq
      exact ⟨x', t, p1, p2, by omega⟩
     ·simp only [List.mem_singleton] at hq
      subst hq
      refine ⟨e, (all.drop e).drop (cA (all.drop e)).2.1, hl, ?_, by omega⟩
      rw [← ds5, List.take_append_drop]
    ·rw [List.map_append, List.pairwise_append]
     refine ⟨hOG.inc, by simp, fun a ha b hb => ?_⟩
     obtain ⟨q, hq, rfl⟩ := List.mem_map.1 ha
     simp at hb
     subst hb
     have := (hOG.ok q hq).2.2.2
     omega)
  simp only [RS] at hh
  exact hh
theorem dZ {w : World} {ad : Addr} {n : Nat} {cs : Array Value} (h : aP w ad n = some (.agg cs)) {i : Nat} {x : Value} (hx : cs[i]? = some x) : w.cell? (ad.add i) = some x := by
 have key : ∀ (n j : Nat) (l : List Value), aE w ad j n = some l → ∀ (i : Nat) (x : Value), l[i]? = some x → w.cell? (ad.add (j + i)) = some x := by
  intro n
  induction n with
  | zero => intro j l hl i x hx; simp only [aE, Option.some.injEq] at hl; subst hl; simp at hx
  | succ n ih =>
   intro j l hl i x hx
   simp only [aE] at hl
   cases hc : w.cell? (ad.add j) with
   | none => rw [hc] at hl; cases hl
   | some v =>
    rw [hc] at hl
    cases hr : aE w ad (j + 1) n with
    | none => rw [hr] at hl; cases hl
    | some l' =>
     rw [hr] at hl
     simp only [Option.map_some, Option.some.injEq] at hl
     subst hl
     cases i with
     | zero => simp at hx; subst hx; exact hc
     | succ i =>
      have := ih (j + 1) l' hr i x (by simpa using hx)
      rw [show j + (i + 1) = j + 1 + i by omega]; exact this
 unfold aP at h
 cases hc : aE w ad 0 n with
 | none => rw [hc] at h; cases h
 | some l =>
  rw [hc] at h
  simp only [Option.map_some, Option.some.injEq, Value.agg.injEq] at h
  subst h
  have := key n 0 l hc i x (by simpa using hx)
  rw [Nat.zero_add] at this; exact this
theorem pH {w : World} {ad : Addr} {m : Int} {p : Pg} {u : Value} (h : aP w ad 7 = some (.agg (imC (m, p, u)).toArray)) : aP w (ad.add 1) 6 = some (.agg (pcs p u)) := by
 refine dq (l := (pcs p u).toList) rfl fun j hj => ?_
 rw [dT, Nat.add_comm 1 j]
 have hx : (imC (m, p, u)).toArray[j + 1]? = (pcs p u).toList[j]? := by
  rw [List.getElem?_toArray]; rfl
 have hlt : j < (pcs p u).toList.length := hj
 rw [List.getElem?_eq_getElem hlt] at hx ⊢
 exact dZ h (i := j + 1) hx
theorem jm {w : World} {va vb : Value} {A B : List (Int)} (hA : CellsAt w va A.length 1 (A.map iv)) (hB : CellsAt w vb B.length 1 (B.map iv)) : Cl prog 88 [va, vb] w fun v w' => v = .bool (decide (A = B)) ∧ Fm (fun _ => False) w w' := by
 have hlt := hA.lt
 unfold maxLen at hlt
 refine c88 ?_; unfold T88
 have dl : decide ((A.length : Int) = (B.length : Int)) = decide (A.length = B.length) := by rw [decide_eq_decide]; omega
 simp only [RS, hA.lenV, hB.lenV, al, dl]
 cases hd : decide (A.length = B.length) with
 | false =>
  rw [decide_eq_false_iff_not] at hd
  rw [ut hd]
  simp only [RS, Bool.not_false]
  exact ⟨(by trivial), Fm.refl _ _⟩
 | true =>
 rw [decide_eq_true_eq] at hd
 simp only [RS, Bool.not_true, hA.lenV]
 refine ⟨fun vl w2 => ∃ i : Nat, vl = [iv i] ∧ i ≤ A.length ∧ A.take i = B.take i ∧ Fm (fun _ => False) w w2, fun vl _ => (A.length - nth vl 0).toNat, ⟨0, rfl, by omega, by simp, Fm.refl _ _⟩, ?_⟩
 rintro _ w2 ivv ⟨i, hvl, hi, ht, hF⟩
 cases hvl
 by_cases hl : i < A.length
 ·have d1 : decide ((i : Int) < (A.length : Int)) = true := by rw [decide_eq_true_eq]; omega
  have e1 : IntKind.i64.wrap ((i : Int) + 1) = ((i + 1 : Nat) : Int) := by rw [ab] <;> omega
  have hx : A[i]? = some A[i] := List.getElem?_eq_getElem hl
  have hy : B[i]? = some B[i] := List.getElem?_eq_getElem (by omega)
  generalize A[i] = x at hx
  generalize B[i] = y at hy
  have hFd := Fmf hF (Fm.drew _ w2)
  obtain ⟨ad, h1, _, h2⟩ := (hA.keep hF (fun _ _ e => e)).at1 (i := i) (x := iv x) (by rw [List.getElem?_map, hx]; rfl) .i64
  obtain ⟨ad', h3, _, h4⟩ := (hB.keep hF (fun _ _ e => e)).at1 (i := i) (x := iv y) (by rw [List.getElem?_map, hy]; rfl) .i64
  simp only [RS, d1, h1, h2, h3, h4, al, true_and]
  cases hxy : decide (x = y) with
  | false =>
   rw [decide_eq_false_iff_not] at hxy
   rw [ww hx hy hxy]
   simp only [RS, Bool.not_false]
   exact ⟨(by trivial), hFd⟩
  | true =>
   rw [decide_eq_true_eq] at hxy
   simp only [RS, Bool.not_true, e1]
   exact ⟨⟨i + 1, rfl, by omega, fw ht hx hy hxy, hFd⟩, by simp only [bw]; omega⟩
 ·have hie : i = A.length := by omega
  subst hie
  have d1 : decide (((A.length : Nat) : Int) < (A.length : Int)) = false := by simp
  rw [mQ hd ht]
  simp only [RS, d1]
  exact ⟨(by trivial), hF⟩
theorem il {w : World} {ca cb : Array Value} {a b : Rc} (ha : RcAs w ca a) (hb : RcAs w cb b) : Cl prog 15 [.agg ca, .agg cb] w fun v w' => v = .bool (decide (a = b)) ∧ Fm (fun _ => False) w w' := by
 obtain ⟨as_, am, ai, ap, at_, hca, _, has, ham, hai, hap, hat⟩ := ha.ex
 obtain ⟨bs_, bm, bi, bp, bt, hcb, _, hbs, hbm, hbi, hbp, hbt⟩ := hb.ex
 have hbulk := ha.bulk
 refine c15 ?_; unfold T15
 refine ao ?_
 intro x1 w1 hx1 hs1 hw1 hf1
 refine ao ?_
 intro x2 w2 hx2 hs2 hw2 hf2
 have hRa : RB w2 x1 a as_ am ai ap at_ := ⟨by rw [← hca]; exact hf2.heap hw1 (fun e => e)⟩
 have hRb : RB w2 x2 b bs_ bm bi bp bt := ⟨by rw [← hcb]; exact hw2⟩
 have hF2 := Fmf hf1 hf2
 simp only [RS, Bool.not_true, hRa.c0, hRb.c0, al]
 cases g0 : decide (a.lsn = b.lsn) with
 | false =>
  rw [decide_eq_false_iff_not] at g0
  rw [dp Rc.lsn g0]
  simp only [RS, Bool.not_false]
  exact ⟨(by trivial), hF2⟩
 | true =>
 simp only [RS, Bool.not_true, hRa.c1, hRb.c1, al]
 cases g1 : decide (a.prev = b.prev) with
 | false =>
  rw [decide_eq_false_iff_not] at g1
  rw [dp Rc.prev g1]
  simp only [RS, Bool.not_false]
  exact ⟨(by trivial), hF2⟩
 | true =>
 simp only [RS, Bool.not_true, hRa.c2, hRb.c2, al]
 cases g2 : decide (a.next = b.next) with
 | false =>
  rw [decide_eq_false_iff_not] at g2
  rw [dp Rc.next g2]
  simp only [RS, Bool.not_false]
  exact ⟨(by trivial), hF2⟩
 | true =>
 simp only [RS, Bool.not_true, hRa.c3, hRb.c3, al]
 cases g3 : decide (a.kind = b.kind) with
 | false =>
  rw [decide_eq_false_iff_not] at g3
  rw [dp Rc.kind g3]
  simp only [RS, Bool.not_false]
  exact ⟨(by trivial), hF2⟩
 | true =>
 simp only [RS, Bool.not_true, hRa.c4, hRb.c4, al]
 cases g4 : decide (a.xid = b.xid) with
 | false =>
  rw [decide_eq_false_iff_not] at g4
  rw [dp Rc.xid g4]
  simp only [RS, Bool.not_false]
  exact ⟨(by trivial), hF2⟩
 | true =>
 simp only [RS, Bool.not_true, hRa.c5, hRb.c5, al]
 cases g5 : decide (a.page = b.page) with
 | false =>
  rw [decide_eq_false_iff_not] at g5
  rw [dp Rc.page g5]
  simp only [RS, Bool.not_false]
  exact ⟨(by trivial), hF2⟩
 | true =>
 simp only [RS, Bool.not_true, hRa.c6, hRb.c6, al]
 cases g6 : decide (a.slot = b.slot) with
 | false =>
  rw [decide_eq_false_iff_not] at g6
  rw [dp Rc.slot g6]
  simp only [RS, Bool.not_false]
  exact ⟨(by trivial), hF2⟩
 | true =>
 simp only [RS, Bool.not_true, hRa.c7, hRb.c7, al]
 cases g7 : decide (a.old = b.old) with
 | false =>
  rw [decide_eq_false_iff_not] at g7
  rw [dp Rc.old g7]
  simp only [RS, Bool.not_false]
  exact ⟨(by trivial), hF2⟩
 | true =>
 simp only [RS, Bool.not_true, hRa.c8, hRb.c8, al]
 cases g8 : decide (a.new = b.new) with
 | false =>
  rw [decide_eq_false_iff_not] at g8
  rw [dp Rc.new g8]
  simp only [RS, Bool.not_false]
  exact ⟨(by trivial), hF2⟩
 | true =>
 simp only [RS, Bool.not_true, hRa.c9, hRb.c9, al]
 cases g9 : decide (a.redo = b.redo) with
 | false =>
  rw [decide_eq_false_iff_not] at g9
  rw [dp Rc.redo g9]
  simp only [RS, Bool.not_false]
  exact ⟨(by trivial), hF2⟩
 | true =>
 simp only [RS, Bool.not_true, hRa.c10, hRb.c10, aD]
 cases g10 : decide (a.data = b.data) with
 | false =>
  rw [decide_eq_false_iff_not] at g10
  rw [dp Rc.data g10]
  simp only [RS, Bool.not_false]
  exact ⟨(by trivial), hF2⟩
 | true =>
 simp only [RS, Bool.not_true, hRa.c11, hRb.c11]
 refine (jm (has.keep hF2 (fun _ _ e => e)) (hbs.keep hF2 (fun _ _ e => e))).mono ?_
 rintro _ w3 ⟨rfl, hf3⟩
 have hF3 := Fmf hF2 hf3
 have hRa3 := hRa.keep hf3 (fun e => e)
 have hRb3 := hRb.keep hf3 (fun e => e)
 cases g11 : decide (a.slots = b.slots) with
 | false =>
  rw [decide_eq_false_iff_not] at g11
  rw [dp Rc.slots g11]
  simp only [RS, Bool.not_false]
  exact ⟨(by trivial), hF3⟩
 | true =>
 simp only [RS, Bool.not_true, hRa3.c12, hRb3.c12]
 refine (jm (ham.keep hF3 (fun _ _ e => e)) (hbm.keep hF3 (fun _ _ e => e))).mono ?_
 rintro _ w4 ⟨rfl, hf4⟩
 have hF4 := Fmf hF3 hf4
 have hRa4 := hRa3.keep hf4 (fun e => e)
 have hRb4 := hRb3.keep hf4 (fun e => e)
 cases g12 : decide (a.more = b.more) with
 | false =>
  rw [decide_eq_false_iff_not] at g12
  rw [dp Rc.more g12]
  simp only [RS, Bool.not_false]
  exact ⟨(by trivial), hF4⟩
 | true =>
 have hia := hai.keep hF4
 have hib := hbi.keep hF4
 have hpa := hap.keep hF4 (fun _ _ e => e)
 have hpb := hbp.keep hF4 (fun _ _ e => e)
 have hta := hat.keep hF4 (fun _ _ e => e)
 have htb := hbt.keep hF4 (fun _ _ e => e)
 have dl1 : decide ((a.imgs.length : Int) = (b.imgs.length : Int)) = decide (a.imgs.length = b.imgs.length) := by rw [decide_eq_decide]; omega
 have dl2 : decide ((a.pages.length : Int) = (b.pages.length : Int)) = decide (a.pages.length = b.pages.length) := by rw [decide_eq_decide]; omega
 have dl3 : decide ((a.txns.length : Int) = (b.txns.length : Int)) = decide (a.txns.length = b.txns.length) := by rw [decide_eq_decide]; omega
 simp only [RS, Bool.not_true, hRa4.c13, hRb4.c13, hia.lenV, hib.lenV, al, dl1]
 cases hd1 : decide (a.imgs.length = b.imgs.length) with
 | false =>
  rw [decide_eq_false_iff_not] at hd1
  rw [dp Rc.imgs (fun e => hd1 (congrArg List.length e))]
  simp only [RS, Bool.not_false]
  exact ⟨(by trivial), hF4⟩
 | true =>
 simp only [RS, Bool.not_true, hRa4.c14, hRb4.c14, hpa.lenV, hpb.lenV, al, dl2]
 cases hd2 : decide (a.pages.length = b.pages.length) with
 | false =>
  rw [decide_eq_false_iff_not] at hd2
  rw [dp Rc.pages (fun e => hd2 (congrArg List.length e))]
  simp only [RS, Bool.not_false]
  exact ⟨(by trivial), hF4⟩
 | true =>
 simp only [RS, Bool.not_true, hRa4.c15, hRb4.c15, hta.lenV, htb.lenV, al, dl3]
 cases hd3 : decide (a.txns.length = b.txns.length) with
 | false =>
  rw [decide_eq_false_iff_not] at hd3
  rw [dp Rc.txns (fun e => hd3 (congrArg List.length e))]
  simp only [RS, Bool.not_false]
  exact ⟨(by trivial), hF4⟩
 | true =>
 rw [decide_eq_true_eq] at hd1 hd2 hd3
 simp only [RS, Bool.not_true]
 clear dl1 dl2 dl3
 refine ⟨fun vl w5 => ∃ i : Nat, vl = [iv i] ∧ i ≤ a.imgs.length ∧ a.imgs.take i = b.imgs.take i ∧ Fm (fun _ => False) w4 w5, fun vl _ => (a.imgs.length - nth vl 0).toNat, ⟨0, rfl, by omega, by simp, Fm.refl _ _⟩, ?_⟩
 rintro _ w5 iv5 ⟨i, hvl, hile, htk, hf5⟩
 cases hvl
 have hRa5 := hRa4.keep hf5 (fun e => e)
 have hRb5 := hRb4.keep hf5 (fun e => e)
 have hia5 := hia.keep hf5
 have hib5 := hib.keep hf5
 by_cases hlt : i < a.imgs.length
 ·have d1 : decide ((i : Int) < (a.imgs.length : Int)) = true := by rw [decide_eq_true_eq]; omega
  have e1 : IntKind.i64.wrap ((i : Int) + 1) = ((i + 1 : Nat) : Int) := by rw [ab] <;> omega
  have hx : a.imgs[i]? = some a.imgs[i] := List.getElem?_eq_getElem hlt
  have hy : b.imgs[i]? = some b.imgs[i] := List.getElem?_eq_getElem (by omega)
  generalize a.imgs[i] = x at hx
  generalize b.imgs[i] = y at hy
  obtain ⟨ad, u, h1, h2, hu, hpu⟩ := hia5.ld hx
  obtain ⟨ad', u', h3, h4, hu', hpu'⟩ := hib5.ld hy
  have hc0 : w5.cell? ad = some (iv x.1) := by
   have := dZ h2 (i := 0) (x := iv x.1) rfl
   rw [Go.Al.add_zero] at this; exact this
  have hc0' : w5.cell? ad' = some (iv y.1) := by
   have := dZ h4 (i := 0) (x := iv y.1) rfl
   rw [Go.Al.add_zero] at this; exact this
  have hfd := Fm.drew (fun _ => False) w5
  have s1 := aZ (pH h2) hfd (fun e => e)
  have s2 := aZ (pH h4) hfd (fun e => e)
  simp only [RS, hRa5.c13, hia5.lenV, d1, h1, hc0, hRb5.c13, h3, hc0', true_and, al]
  cases h0 : decide (x.1 = y.1) with
  | false =>
   rw [decide_eq_false_iff_not] at h0
   rw [dp Rc.imgs (fun e => h0 (by rw [e, hy] at hx; cases hx; rfl))]
   simp only [RS, Bool.not_false]
   exact ⟨(by trivial), trivial, trivial, trivial, trivial, Fmf hF4 (Fmf hf5 hfd)⟩
  | true =>
  rw [decide_eq_true_eq] at h0
  simp only [RS, Bool.not_true, hRa5.c13, h1, s1, hRb5.c13, h3, s2, true_and]
  refine (nV ((hpu.keep hfd)) ((hpu'.keep hfd))).mono ?_
  rintro _ w6 ⟨rfl, hf6⟩
  have hF6 := Fmf hf5 (Fmf hfd hf6)
  cases h00 : decide (x.2 = y.2) with
  | false =>
   rw [decide_eq_false_iff_not] at h00
   rw [dp Rc.imgs (fun e => h00 (by rw [e, hy] at hx; cases hx; rfl))]
   simp only [RS, Bool.not_false]
   exact ⟨(by trivial), Fmf hF4 hF6⟩
  | true =>
  rw [decide_eq_true_eq] at h00
  simp only [RS, Bool.not_true, e1]
  exact ⟨⟨i + 1, rfl, by omega, fw htk hx hy (Prod.ext h0 h00), hF6⟩, by simp only [bw]; omega⟩
 have hie : i = a.imgs.length := by omega
 subst hie
 have d1 : decide (((a.imgs.length : Nat) : Int) < (a.imgs.length : Int)) = false := by simp
 have g13 := mQ hd1 htk
 simp only [RS, hRa5.c13, hia5.lenV, d1]
 clear d1 hlt htk
 have hpagesa := hpa.keep hf5 (fun _ _ e => e)
 have hpagesb := hpb.keep hf5 (fun _ _ e => e)
 refine ⟨fun vl w6 => ∃ i : Nat, vl = [iv i] ∧ i ≤ a.pages.length ∧ a.pages.take i = b.pages.take i ∧ Fm (fun _ => False) w5 w6, fun vl _ => (a.pages.length - nth vl 0).toNat, ⟨0, rfl, by omega, by simp, Fm.refl _ _⟩, ?_⟩
 rintro _ w6 iv6 ⟨i, hvl, hile, htk, hf6⟩
 cases hvl
 have hRa6 := hRa5.keep hf6 (fun e => e)
 have hRb6 := hRb5.keep hf6 (fun e => e)
 have hA := hpagesa.keep hf6 (fun _ _ e => e)
 have hB := hpagesb.keep hf6 (fun _ _ e => e)
 by_cases hlt : i < a.pages.length
 ·have d1 : decide ((i : Int) < (a.pages.length : Int)) = true := by rw [decide_eq_true_eq]; omega
  have e1 : IntKind.i64.wrap ((i : Int) + 1) = ((i + 1 : Nat) : Int) := by rw [ab] <;> omega
  have hx : a.pages[i]? = some a.pages[i] := List.getElem?_eq_getElem hlt
  have hy : b.pages[i]? = some b.pages[i] := List.getElem?_eq_getElem (by omega)
  generalize a.pages[i] = x at hx
  generalize b.pages[i] = y at hy
  obtain ⟨ad, h1, h2, _⟩ := bJ bj (by omega) hA hx
  obtain ⟨ad', h3, h4, _⟩ := bJ bj (by omega) hB hy
  have hfd := Fm.drew (fun _ => False) w6
  have h2' := aZ h2 hfd (fun e => e)
  have h4' := aZ h4 hfd (fun e => e)
  simp only [RS, hRa6.c14, hA.lenV, d1, h1, h2', hRb6.c14, h3, h4', true_and]
  refine af (wj _ _ x y _) ?_
  simp only [RS, true_and]
  cases hxy : decide (x = y) with
  | false =>
   rw [decide_eq_false_iff_not] at hxy
   rw [dp Rc.pages (fun e => hxy (by rw [e, hy] at hx; exact (Option.some.inj hx).symm))]
   simp only [RS, Bool.not_false]
   exact ⟨(by trivial), Fmf hF4 (Fmf hf5 (Fmf hf6 hfd))⟩
  | true =>
   rw [decide_eq_true_eq] at hxy
   simp only [RS, Bool.not_true, e1]
   exact ⟨⟨i + 1, rfl, by omega, fw htk hx hy hxy, Fmf hf6 hfd⟩, by simp only [bw]; omega⟩
 have hie : i = a.pages.length := by omega
 subst hie
 have d1 : decide (((a.pages.length : Nat) : Int) < (a.pages.length : Int)) = false := by simp
 have g14 := mQ hd2 htk
 simp only [RS, hRa6.c14, hA.lenV, d1]
 clear d1 hlt htk
 have htxnsa := hta.keep (Fmf hf5 hf6) (fun _ _ e => e)
 have htxnsb := htb.keep (Fmf hf5 hf6) (fun _ _ e => e)
 refine ⟨fun vl w7 => ∃ i : Nat, vl = [iv i] ∧ i ≤ a.txns.length ∧ a.txns.take i = b.txns.take i ∧ Fm (fun _ => False) w6 w7, fun vl _ => (a.txns.length - nth vl 0).toNat, ⟨0, rfl, by omega, by simp, Fm.refl _ _⟩, ?_⟩
 rintro _ w7 iv7 ⟨i, hvl, hile, htk, hf7⟩
 cases hvl
 have hRa7 := hRa6.keep hf7 (fun e => e)
 have hRb7 := hRb6.keep hf7 (fun e => e)
 have hA := htxnsa.keep hf7 (fun _ _ e => e)
 have hB := htxnsb.keep hf7 (fun _ _ e => e)
 by_cases hlt : i < a.txns.length
 ·have d1 : decide ((i : Int) < (a.txns.length : Int)) = true := by rw [decide_eq_true_eq]; omega
  have e1 : IntKind.i64.wrap ((i : Int) + 1) = ((i + 1 : Nat) : Int) := by rw [ab] <;> omega
  have hx : a.txns[i]? = some a.txns[i] := List.getElem?_eq_getElem hlt
  have hy : b.txns[i]? = some b.txns[i] := List.getElem?_eq_getElem (by omega)
  generalize a.txns[i] = x at hx
  generalize b.txns[i] = y at hy
  obtain ⟨ad, h1, h2, _⟩ := bJ bj (by omega) hA hx
  obtain ⟨ad', h3, h4, _⟩ := bJ bj (by omega) hB hy
  have hfd := Fm.drew (fun _ => False) w7
  have h2' := aZ h2 hfd (fun e => e)
  have h4' := aZ h4 hfd (fun e => e)
  simp only [RS, hRa7.c15, hA.lenV, d1, h1, h2', hRb7.c15, h3, h4', true_and]
  refine af (wg _ _ x y _) ?_
  simp only [RS, true_and]
  cases hxy : decide (x = y) with
  | false =>
   rw [decide_eq_false_iff_not] at hxy
   rw [dp Rc.txns (fun e => hxy (by rw [e, hy] at hx; exact (Option.some.inj hx).symm))]
   simp only [RS, Bool.not_false]
   exact ⟨(by trivial), Fmf hF4 (Fmf (Fmf hf5 hf6) (Fmf hf7 hfd))⟩
  | true =>
   rw [decide_eq_true_eq] at hxy
   simp only [RS, Bool.not_true, e1]
   exact ⟨⟨i + 1, rfl, by omega, fw htk hx hy hxy, Fmf hf7 hfd⟩, by simp only [bw]; omega⟩
 have hie : i = a.txns.length := by omega
 subst hie
 have d1 : decide (((a.txns.length : Nat) : Int) < (a.txns.length : Int)) = false := by simp
 have g15 := mQ hd3 htk
 simp only [RS, hRa7.c15, hA.lenV, d1]
 refine ⟨?_, Fmf hF4 (Fmf hf5 (Fmf hf6 hf7))⟩
 congr 1
 symm
 rw [decide_eq_true_eq] at g0 g1 g2 g3 g4 g5 g6 g7 g8 g9 g10 g11 g12 g13 g14 g15 ⊢
 cases a; cases b
 simp only at g0 g1 g2 g3 g4 g5 g6 g7 g8 g9 g10 g11 g12 g13 g14 g15
 subst g0 g1 g2 g3 g4 g5 g6 g7 g8 g9 g10 g11 g12 g13 g14 g15
 rfl
end Go.Proofs.YthbngnlmgplijaaGreatDoor
namespace Go.Proofs
open Go.RowKit Go.Maps Go.Sort Go.Shelf
def Tryz.sortedA_ren : Go.Shelf.Ren := ⟨fun | 6 => 118 | 8 => 188 | 9 => 189 | 11 => 218 | 13 => 220 | 12 => 219 | 23 => 237 | 24 => 238 | 14 => 228 | 15 => 229 | 16 => 230 | 17 => 231 | 18 => 232 | 19 => 233 | 20 => 234 | 21 => 235 | 22 => 236 | 25 => 244 | 26 => 245 | 27 => 246 | 28 => 247 | 29 => 248 | 30 => 249 | 31 => 251 | n => n, fun | 26 => 3 | 28 => 161 | 24 => 23 | 0 => 0 | 3 => 3 | 37 => 179 | 48 => 110 | 50 => 178 | 4 => 4 | 40 => 249 | 39 => 248 | 45 => 158 | 5 => 5 | 9 => 9 | 51 => 263 | 55 => 267 | 57 => 269 | 58 => 270 | 33 => 79 | n => n, fun | n => n⟩
theorem Tryz.sortedA : Go.Proofs.SlLaysZI.n6 prog Tryz.sortedA_ren := {
 mixed := by kernel_rfl
 f6 := ⟨Tryz.f118.name, by decide, Tryz.func118.trans (congrArg some (by kernel_rfl))⟩
 f8 := ⟨Tryz.f188.name, by decide, Tryz.func188.trans (congrArg some (by kernel_rfl))⟩
 f11 := ⟨Tryz.f218.name, by decide, Tryz.func218.trans (congrArg some (by kernel_rfl))⟩
 t0 := Tryz.underlying0
 a0 := Tryz.isAgg0
 z0 := Tryz.sizeOf0
 v0 := Tryz.zeroValue0
 t24 := Tryz.underlying23
 a24 := Tryz.isAgg23
 z24 := Tryz.sizeOf23
 v24 := Tryz.zeroValue23
 t26 := Tryz.underlying3
 a26 := Tryz.isAgg3
 z26 := Tryz.sizeOf3
 v26 := Tryz.zeroValue3
 t28 := Tryz.underlying161
 a28 := Tryz.isAgg161
 z28 := Tryz.sizeOf161
 v28 := Tryz.zeroValue161
 i26 := by kernel_rfl }
def Tryz.sortI_ren : Go.Shelf.Ren := ⟨fun | 5 => 189 | 8 => 220 | 7 => 219 | 19 => 237 | 20 => 238 | 10 => 228 | 11 => 229 | 12 => 230 | 13 => 231 | 14 => 232 | 15 => 233 | 16 => 234 | 17 => 235 | 18 => 236 | 30 => 244 | 31 => 245 | 32 => 246 | 33 => 247 | 34 => 248 | 35 => 249 | 40 => 251 | n => n, fun | 23 => 23 | 25 => 3 | 3 => 3 | 32 => 179 | 22 => 23 | 0 => 0 | 44 => 110 | 46 => 178 | 4 => 4 | 36 => 249 | 35 => 248 | 41 => 158 | 5 => 5 | 9 => 9 | 53 => 263 | 57 => 267 | 63 => 269 | 64 => 270 | n => n, fun | n => n⟩
theorem Tryz.sortI : Go.Proofs.SlLaysM.n5 prog Tryz.sortI_ren := {
 mixed := by kernel_rfl
 f5 := ⟨Tryz.f189.name, by decide, Tryz.func189.trans (congrArg some (by kernel_rfl))⟩
 f7 := ⟨Tryz.f219.name, by decide, Tryz.func219.trans (congrArg some (by kernel_rfl))⟩
 f8 := Tryz.func220.trans (congrArg some (by kernel_rfl))
 f10 := ⟨Tryz.f228.name, by decide, Tryz.func228.trans (congrArg some (by kernel_rfl))⟩
 f11 := ⟨Tryz.f229.name, by decide, Tryz.func229.trans (congrArg some (by kernel_rfl))⟩
 f12 := ⟨Tryz.f230.name, by decide, Tryz.func230.trans (congrArg some (by kernel_rfl))⟩
 f13 := ⟨Tryz.f231.name, by decide, Tryz.func231.trans (congrArg some (by kernel_rfl))⟩
 f14 := ⟨Tryz.f232.name, by decide, Tryz.func232.trans (congrArg some (by kernel_rfl))⟩
 f15 := ⟨Tryz.f233.name, by decide, Tryz.func233.trans (congrArg some (by kernel_rfl))⟩
 f16 := ⟨Tryz.f234.name, by decide, Tryz.func234.trans (congrArg some (by kernel_rfl))⟩
 f17 := ⟨Tryz.f235.name, by decide, Tryz.func235.trans (congrArg some (by kernel_rfl))⟩
 f18 := ⟨Tryz.f236.name, by decide, Tryz.func236.trans (congrArg some (by kernel_rfl))⟩
 f19 := Tryz.func237.trans (congrArg some (by kernel_rfl))
 f20 := Tryz.func238.trans (congrArg some (by kernel_rfl))
 f30 := ⟨Tryz.f244.name, by decide, Tryz.func244.trans (congrArg some (by kernel_rfl))⟩
 f31 := Tryz.func245.trans (congrArg some (by kernel_rfl))
 f32 := Tryz.func246.trans (congrArg some (by kernel_rfl))
 f33 := ⟨Tryz.f247.name, by decide, Tryz.func247.trans (congrArg some (by kernel_rfl))⟩
 f34 := ⟨Tryz.f248.name, by decide, Tryz.func248.trans (congrArg some (by kernel_rfl))⟩
 f35 := ⟨Tryz.f249.name, by decide, Tryz.func249.trans (congrArg some (by kernel_rfl))⟩
 f40 := ⟨Tryz.f251.name, by decide, Tryz.func251.trans (congrArg some (by kernel_rfl))⟩
 t0 := Tryz.underlying0
 a0 := Tryz.isAgg0
 z0 := Tryz.sizeOf0
 v0 := Tryz.zeroValue0
 t3 := Tryz.underlying3
 a3 := Tryz.isAgg3
 z3 := Tryz.sizeOf3
 v3 := Tryz.zeroValue3
 t4 := Tryz.underlying4
 a4 := Tryz.isAgg4
 z4 := Tryz.sizeOf4
 v4 := Tryz.zeroValue4
 t5 := Tryz.underlying5
 a5 := Tryz.isAgg5
 z5 := Tryz.sizeOf5
 v5 := Tryz.zeroValue5
 t9 := Tryz.underlying9
 a9 := Tryz.isAgg9
 z9 := Tryz.sizeOf9
 v9 := Tryz.zeroValue9
 t22 := Tryz.underlying23
 a22 := Tryz.isAgg23
 z22 := Tryz.sizeOf23
 v22 := Tryz.zeroValue23
 t23 := Tryz.underlying23
 a23 := Tryz.isAgg23
 z23 := Tryz.sizeOf23
 v23 := Tryz.zeroValue23
 t25 := Tryz.underlying3
 a25 := Tryz.isAgg3
 z25 := Tryz.sizeOf3
 v25 := Tryz.zeroValue3
 t32 := Tryz.underlying179
 a32 := Tryz.isAgg179
 z32 := Tryz.sizeOf179
 v32 := Tryz.zeroValue179
 t35 := Tryz.underlying248
 a35 := Tryz.isAgg248
 z35 := Tryz.sizeOf248
 v35 := Tryz.zeroValue248
 t36 := Tryz.underlying249
 a36 := Tryz.isAgg249
 z36 := Tryz.sizeOf249
 v36 := Tryz.zeroValue249
 t41 := Tryz.underlying158
 a41 := Tryz.isAgg158
 z41 := Tryz.sizeOf158
 v41 := Tryz.zeroValue158
 t44 := Tryz.underlying110
 a44 := Tryz.isAgg110
 z44 := Tryz.sizeOf110
 v44 := Tryz.zeroValue110
 t46 := Tryz.underlying178
 a46 := Tryz.isAgg178
 z46 := Tryz.sizeOf178
 v46 := Tryz.zeroValue178
 t53 := Tryz.underlying263
 a53 := Tryz.isAgg263
 z53 := Tryz.sizeOf263
 v53 := Tryz.zeroValue263
 t57 := Tryz.underlying267
 a57 := Tryz.isAgg267
 z57 := Tryz.sizeOf267
 v57 := Tryz.zeroValue267
 t63 := Tryz.underlying269
 a63 := Tryz.isAgg269
 z63 := Tryz.sizeOf269
 v63 := Tryz.zeroValue269
 t64 := Tryz.underlying270
 a64 := Tryz.isAgg270
 z64 := Tryz.sizeOf270
 v64 := Tryz.zeroValue270 }
def Tryz.keysA_ren : Go.Shelf.Ren := ⟨fun | 7 => 191 | 10 => 221 | n => n, fun | 23 => 124 | 26 => 3 | 3 => 9 | 28 => 161 | 0 => 0 | 27 => 160 | 33 => 79 | 4 => 4 | n => n, fun | n => n⟩
theorem Tryz.keysA : Go.Proofs.SlLaysZI.n7 prog Tryz.keysA_ren := {
 mixed := by kernel_rfl
 f7 := ⟨Tryz.f191.name, by decide, Tryz.func191.trans (congrArg some (by kernel_rfl))⟩
 f10 := ⟨Tryz.f221.name, by decide, Tryz.func221.trans (congrArg some (by kernel_rfl))⟩
 t0 := Tryz.underlying0
 a0 := Tryz.isAgg0
 z0 := Tryz.sizeOf0
 v0 := Tryz.zeroValue0
 t4 := Tryz.underlying4
 a4 := Tryz.isAgg4
 z4 := Tryz.sizeOf4
 v4 := Tryz.zeroValue4
 t23 := Tryz.underlying124
 a23 := Tryz.isAgg124
 z23 := Tryz.sizeOf124
 v23 := Tryz.zeroValue124
 t26 := Tryz.underlying3
 a26 := Tryz.isAgg3
 z26 := Tryz.sizeOf3
 v26 := Tryz.zeroValue3
 t27 := Tryz.underlying160
 a27 := Tryz.isAgg160
 z27 := Tryz.sizeOf160
 v27 := Tryz.zeroValue160
 t28 := Tryz.underlying161
 a28 := Tryz.isAgg161
 z28 := Tryz.sizeOf161
 v28 := Tryz.zeroValue161
 t33 := Tryz.underlying79
 a33 := Tryz.isAgg79
 z33 := Tryz.sizeOf79
 v33 := Tryz.zeroValue79 }
theorem Tryz.sortsA (m : Nat) : AnyZI.SortsIn prog Tryz.sortedA_ren Fence.wide m :=
 ⟨fun blk off cap ss W hH hblk hsz => callsIn_wide.2 (AnyM.slices_Sort_int Tryz.sortI blk off cap ss W hH hblk hsz),
  fun p cap W => callsIn_wide.2 (AnyM.slices_Sort_int_none Tryz.sortI p cap W)⟩
namespace YthbngnlmgplijaaGreatDoor
open Go.Al
theorem si {g : FuncId} {args : List Value} {w : World} {R : Ending → World → Prop} {k : KV} (h : Calls prog g args.toArray w R) (hk : ∀ e w', R e w' → ∃ v, e = .returned v ∧ k v w') : Cl prog g args w k :=
 ⟨h.mono fun e w' he => by obtain ⟨v, rfl, hv⟩ := hk e w' he; exact hv⟩
theorem rF {β : Type} {kt : TypeId} (hk : prog.underlying kt = some (.int .i64)) {w : World} {b : Nat} {vv : β → Value} {D : List (Int × β)} (h : MapAt w b (Value.int .i64) vv D) (hwf : ∀ p ∈ D, (Lit.int .i64 p.1).wf = true) (hsz : D.length ≤ maxLen) :
  ∃ D0 : DataW Unit, w.ownsMap prog kt (fun _ => some (.nil, [])) b D.length D0 ∧ (intKeys D0).Perm (D.map (·.1)) ∧ Maps.size D0 = D.length := by
 obtain ⟨es, c, hb, he, hn, hlt⟩ := h.ex
 have hlen : es.size = D.length := by have := congrArg List.length he; simpa using this
 have hkey : ∀ x ∈ es.toList, ∃ p ∈ D, x.key = .int .i64 p.1 := by
  intro x hx
  have : (x.key, x.val) ∈ D.map (fun p => (Value.int .i64 p.1, vv p.2)) := by rw [← he]; exact List.mem_map.2 ⟨x, hx, rfl⟩
  obtain ⟨p, hp, hpe⟩ := List.mem_map.1 this
  simp only [Prod.mk.injEq] at hpe
  exact ⟨p, hp, hpe.1.symm⟩
 have hrd : ∀ x ∈ es.toList, ∀ p : Int × β, p ∈ D → x.key = .int .i64 p.1 → WideElems.rd (H := Unit) prog kt (fun _ => some (.nil, [])) x = some (.int .i64 p.1, .nil) := by
  intro x hx p hp hxp
  unfold WideElems.rd
  rw [hxp, Maps.keyOf_int_mk hk (hwf p hp)]
  rfl
 have hks : es.toList.map (·.key) = D.map (fun p => Value.int .i64 p.1) := by
  have := congrArg (List.map Prod.fst) he
  simpa [List.map_map, Function.comp_def] using this
 have hF : WideElems.Fit (H := Unit) prog kt (fun _ => some (.nil, [])) es c := by
  refine ⟨by omega, ⟨hlt, hn, ?_⟩, fun x hx => ?_⟩
  ·rw [hks]
   have := h.keys
   rw [List.Nodup, List.pairwise_map] at this ⊢
   exact this.imp fun hne e => hne (by simpa using e)
  ·obtain ⟨p, hp, hxp⟩ := hkey x hx
   exact ⟨_, hrd x hx p hp hxp⟩
 refine ⟨_, ⟨es, c, hb, hF, by omega, rfl⟩, ?_, ?_⟩
 ·have h1 : (((es.toList.map (WideElems.rg (H := Unit) prog kt (fun _ => some (.nil, [])))).foldr DataW.insert []).map fun p => Go.intOf p.1).Perm ((es.toList.map (WideElems.rg (H := Unit) prog kt (fun _ => some (.nil, [])))).map fun p => Go.intOf p.1) := (WideShapes.sorted_perm _).map _
  have h2 : ((es.toList.map (WideElems.rg (H := Unit) prog kt (fun _ => some (.nil, [])))).map fun p => Go.intOf p.1) = D.map (·.1) := by
   rw [List.map_map]
   have h3 : D.map (·.1) = (es.toList.map (·.key)).map (fun v => match v with | .int _ x => x | _ => 0) := by
    rw [hks, List.map_map]; rfl
   rw [h3, List.map_map]
   refine List.map_congr_left fun x hx => ?_
   obtain ⟨p, hp, hxp⟩ := hkey x hx
   simp only [Function.comp_apply, WideElems.rg, hrd x hx p hp hxp, hxp, Option.getD_some, Go.intOf]
  show (List.map _ _).Perm _
  rw [← h2]; exact h1
 ·show List.length _ = _
  rw [(WideShapes.sorted_perm _).length_eq, List.length_map]
  simpa using hlen
theorem nP (mb : Option Nat) (w : World) : Cl prog 191 [.map mb] w fun v w' => v = .func (.func 221) #[] #[.pointer (some ⟨w.heap.size, 0, none⟩)] ∧ w' = w.alloc (.cells #[.map mb] 124) := by
 have c : CallsIn Fence.wide 5 prog 191 #[.map mb] w fun e w' => e = .returned (.func (.func 221) #[] #[.pointer (some ⟨w.heap.size, 0, none⟩)]) ∧ w' = w.alloc (.cells #[.map mb] 124) := AnyZI.keys_in Tryz.keysA Fence.wide 5 trivial rfl mb w
 exact si (callsIn_wide.1 c) fun e w' ⟨h1, h2⟩ => ⟨_, h1, rfl, h2⟩
theorem qB (g c : Nat) (hg : ∀ args w, (callFunc g args).run prog w = .ok (.enter g args) w) (S : List Int → Prop) (N : Nat) (hNb : N * 8 ≤ 140737488355328) (w : World) (h : SeqGives Fence.wide 2 prog g #[.pointer (some ⟨c, 0, none⟩)] encZ S N w) :
  Cl prog 118 [.func (.func g) #[] #[.pointer (some ⟨c, 0, none⟩)]] w fun v w' => ∃ ss, S ss ∧ w'.ownsRow w.heap.size 3 1 v ss.length ((ss.mergeSort (fun x y => decide (x ≤ y))).map encZ) ∧ (v = .slice none 0 0 ↔ ss = []) ∧ Below w.heap.size w w' := by
 have cS := AnyZI.sorted_in Tryz.sortedA Fence.wide 5 trivial trivial trivial trivial rfl (by omega) (Tryz.sortsA _) (enters_of Tryz.func189 (by kernel_rfl) rfl) g #[.pointer (some ⟨c, 0, none⟩)] trivial hg S N (by unfold maxLen; omega) hNb w h
 change CallsIn _ _ prog 118 _ _ _ at cS
 exact si (callsIn_wide.1 cS) fun e w' ⟨v, ss, h1, h2, h3, h4, h5⟩ => ⟨v, h1, ss, h2, h3, h4, h5⟩
def kJ {β : Type} (D : List (Int × β)) : List Int := (D.map (·.1)).mergeSort (fun x y => decide (x ≤ y))
theorem lp {β : Type} {w : World} {b : Nat} {vv : β → Value} {D : List (Int × β)} (h : MapAt w b (Value.int .i64) vv D) (hwf : ∀ p ∈ D, (Lit.int .i64 p.1).wf = true) (hsz : D.length * 8 ≤ 140737488355328) :
  Cl prog 118 [.func (.func 221) #[] #[.pointer (some ⟨w.heap.size, 0, none⟩)]] (w.alloc (.cells #[.map (some b)] 124)) fun v w' => w'.ownsRow w.heap.size 3 1 v D.length ((kJ D).map encZ) ∧ (v = .slice none 0 0 ↔ D = []) ∧ Fm (fun _ => False) w w' := by
 have hm : D.length ≤ maxLen := by unfold maxLen; omega
 obtain ⟨D0, hown, hp, hs⟩ := rF (kt := 3) (by kernel_rfl) h hwf hm
 have hbl := hown.lt
 have hseq : SeqGives Fence.wide 2 prog 221 #[.pointer (some ⟨w.heap.size, 0, none⟩)] encZ (fun ss => ss.Perm (intKeys D0)) (Maps.size D0) (w.alloc (.cells #[.map (some b)] 124)) :=
  AnyZI.keys_gives (ρ := Tryz.keysA_ren) { Tryz.keysA with } Fence.wide _ trivial rfl (by omega) w.heap.size b D.length D0 _ (by simp) (by simp) (by
   obtain ⟨es, clock, hb, Ft, hs, hD⟩ := hown
   exact ⟨es, clock, (Below.heap_alloc _ _ b hbl).trans hb, Ft, hs, hD⟩)
 refine (qB 221 _ (enters_of Tryz.func221 (by kernel_rfl) rfl) _ _ (by omega) _ hseq).mono ?_
 rintro v w' ⟨ss, hS, hrow, hnil, hb⟩
 have hperm : ss.Perm (D.map (·.1)) := hS.trans hp
 have hl : ss.length = D.length := by simpa using hperm.length_eq
 refine ⟨?_, ?_, ?_⟩
 ·have := ownsRow_base_a hrow (show w.heap.size ≤ _ by simp)
  rw [hl] at this
  rw [kJ, ← mergeSort_of_perm_i hperm]; exact this
 ·rw [hnil]
  constructor
  ·intro e; rw [e] at hl; exact List.eq_nil_of_length_eq_zero hl.symm
  ·intro e; rw [e] at hl; exact List.eq_nil_of_length_eq_zero hl
 ·exact (Fm.alloc _ _ _).trans (Fm.of_below hb _) (fun _ _ h => h) (fun _ _ h => h)
end YthbngnlmgplijaaGreatDoor
end Go.Proofs
namespace Go.Proofs.YthbngnlmgplijaaGreatDoor
open Go.Al Go.Proofs
theorem um (z : Int) (w : World) : (Instr.build 163 #[(0, iv 0), (1, iv 64), (2, iv z)]).run prog w = .ok (.agg #[iv 0, iv 64, iv z]) w := by kernel_rfl
theorem jl {w : World} {b g m : Nat} {d : Dk} (h : DAt w b g m d) : Cl prog 120 [pv b] w fun v w' => w'.ownsRow w.heap.size 3 1 v d.pend.length (d.pend.map fun i => iv (i : Nat)) ∧ (v = .slice none 0 0 ↔ d.pend = []) ∧ Fm (fun _ => False) w w' := by
 have hn := h.wf.n1
 obtain ⟨M, hM, hi⟩ := h.mp
 have hmem : ∀ k, k ∈ M.map (·.1) ↔ k ∈ d.pend.map fun i : Nat => (i : Int) := by
  intro k
  rw [List.mem_map, List.mem_map]
  constructor
  ·rintro ⟨⟨k', x⟩, hp, rfl⟩
   obtain ⟨i, rfl, hc, _⟩ := (hi _ _).1 hp
   exact ⟨i, (Dk.pend_mem h.wf).2 hc, rfl⟩
  ·rintro ⟨i, hp, rfl⟩
   have hc := (Dk.pend_mem h.wf).1 hp
   have hlt : i < d.old.length := by rw [h.wf.lo, ← h.wf.lc]; exact Dk.isC_lt hc
   exact ⟨((i : Int), d.old[i]), (hi _ _).2 ⟨i, rfl, hc, List.getElem?_eq_getElem hlt⟩, rfl⟩
 have hpr : (d.pend.map fun i : Nat => (i : Int)).Pairwise (· < ·) := by
  rw [List.pairwise_map]
  exact (Dk.pend_rises d).imp fun h => by omega
 have hsk : kJ M = d.pend.map fun i : Nat => (i : Int) := by
  refine Dk.rising_eq ?_ hpr ?_
  ·have h1 : (kJ M).Pairwise (fun x y => decide (x ≤ y) = true) := List.pairwise_mergeSort (fun a b c h1 h2 => by simp at *; omega) (fun a b => by simp; omega) _
   have h2 : (kJ M).Nodup := by rw [kJ]; exact (List.mergeSort_perm _ _).nodup_iff.2 hM.keys
   exact (h1.and h2).imp fun ⟨h, hn⟩ => by simp at h; omega
  ·intro x
   rw [← hmem]
   unfold kJ
   exact List.mem_mergeSort
 have hlen : M.length = d.pend.length := by
  have := congrArg List.length hsk
  rw [kJ, List.length_mergeSort, List.length_map, List.length_map] at this
  exact this
 have hpl := Dk.pend_len d
 have hwf : ∀ p ∈ M, (Lit.int .i64 p.1).wf = true := by
  rintro ⟨k, x⟩ hp
  obtain ⟨i, rfl, hc, _⟩ := (hi _ _).1 hp
  have := Dk.isC_lt hc
  rw [h.wf.lc] at this
  show (decide (-9223372036854775808 ≤ (i : Int)) && decide ((i : Int) ≤ 9223372036854775807)) = true
  simp; omega
 refine c120 ?_; unfold T120
 simp only [RS, h.c1]
 refine (nP (some m) w).mono ?_
 rintro _ _ ⟨rfl, rfl⟩
 refine (lp hM hwf (by omega)).mono ?_
 rintro v w' ⟨h1, h2, h3⟩
 rw [hlen, hsk] at h1
 refine ⟨?_, ?_, h3⟩
 ·rw [List.map_map] at h1; exact h1
 ·rw [h2, ← List.length_eq_zero_iff, hlen, List.length_eq_zero_iff]
theorem qV {f : Int} (h : 0 ≤ f) : ixG false 3 1 (.agg #[iv 0, iv 64, iv (f / 3 % 65)]) (iv (f % 3)) = some (iv (Dk.kept f : Nat)) := by
 have h1 : f % 3 = 0 ∨ f % 3 = 1 ∨ f % 3 = 2 := by omega
 unfold Dk.kept
 rcases h1 with h1 | h1 | h1
 ·rw [h1]; rfl
 ·rw [h1]; rfl
 ·rw [h1]
  have : 0 ≤ f / 3 % 65 := by omega
  show some (iv (f / 3 % 65)) = _
  rw [if_neg (by decide), if_neg (by decide), Int.toNat_of_nonneg this]
theorem qm {f : Int} : eV (iv f) (iv (-(f + 1))) = some (iv (Dk.fold1 f)) := by
 show some (iv (if -(f + 1) > f then -(f + 1) else f)) = _
 unfold Dk.fold1
 congr 2
 split <;> split <;> omega
theorem lN {w : World} {b g m : Nat} {d : Dk} (h : DAt w b g m d) {hv : Value} {L : List Int} (hL : CellsAt w hv L.length 1 (L.map iv)) (hLb : L ≠ [] → ∀ q, cd hv = some q → q ≠ b ∧ q ≠ g ∧ q ≠ m)
  (hr : ∀ f ∈ L, -9223372036854775808 ≤ f ∧ f ≤ 9223372036854775807) :
  Cl prog 46 [pv b, hv] w fun v w' => v = .tuple #[] ∧ DAt w' b g m (d.crash L) ∧ Fm (fun x => x = b ∨ x = g ∨ x = m) w w' := by
 have hn := h.wf.n1
 refine c46 ?_; unfold T46
 simp only [RS]
 refine (jl h).mono ?_
 rintro pv' w3 ⟨hrow, hnil, hf3⟩
 have h3 := h.keep0 hf3
 have hlt := h.lt
 have hplen := sY hrow
 have hpl := Dk.pend_len d
 simp only [RS, hplen]
 refine ⟨fun vs w2 => ∃ k : Nat, vs = [iv k] ∧ k ≤ d.pend.length ∧ DAt w2 b g m (d.mid L k) ∧ Fm (fun x => x = b ∨ x = g ∨ x = m) w3 w2, fun vs _ => (d.pend.length - nth vs 0).toNat, ⟨0, rfl, by omega, by rw [Dk.mid_zero]; exact h3, Fm.refl _ _⟩, ?_⟩
 rintro _ w2 ik ⟨k, hvs, hk, hE, hf⟩
 cases hvs
 have hF : Fm (fun x => x = b ∨ x = g ∨ x = m) w w2 := hf3.trans hf (fun _ _ e => e.elim) (fun _ _ e => e)
 have hln := Dk.mid_len L d k
 by_cases hlt2 : k < d.pend.length
 ·have e1 : decide ((k : Int) < (d.pend.length : Int)) = true := by simpa using hlt2
  have hPk : d.pend[k]? = some d.pend[k] := List.getElem?_eq_getElem hlt2
  generalize d.pend[k] = i at hPk
  obtain ⟨hi1, hi2, hi3, hi4⟩ := Dk.mid_step (how := L) hPk
  have hrow2 := ae hrow hf (fun q hq _ _ => by omega)
  obtain ⟨ad, hix, _, hc⟩ := (CellsAt.of_own hrow2).at1 (i := k) (x := iv (i : Nat)) (by rw [List.getElem?_map, hPk]; rfl) .i64
  simp only [RS, e1, hix, hc]
  refine bG (fun vs w4 => vs = [iv (Dk.fate L k)] ∧ (w4 = w2 ∨ w4 = w2.drew)) ?_ ?_
  ·rintro _ w4 ⟨rfl, hw4⟩ _
   refine ⟨_, rfl, ?_⟩
   have hF4 : Fm (fun _ => False) w2 w4 := by rcases hw4 with rfl | rfl; exact Fm.refl _ _; exact Fm.drew _ _
   have hE4 := hE.keep0 hF4
   clear hw4
   have hfp := Dk.fate_pos hr k
   generalize hfe : Dk.fate L k = f at hfp hi4
   have q1 := pQ (TypeDesc.int .i64) (a := f) (b := 3) hfp.1 (by decide) hfp.2
   have q2 := jP (TypeDesc.int .i64) (a := f / 3) (b := 65) (by omega) (by decide) (by omega)
   have q3 := jP (TypeDesc.int .i64) (a := f) (b := 3) hfp.1 (by decide) hfp.2
   have q4 := qV hfp.1
   simp only [RS, q1, q2]
   refine af (um _ _) ?_
   simp only [RS, q3, q4]
   have hkl := Dk.kept_le f
   obtain ⟨M, hM, hmem⟩ := hE4.mp
   have hil : i < d.old.length := by rw [h.wf.lo]; exact hi1
   have hold : d.old[i]? = some (d.old.getD i []) := Dk.getD_eq hil
   have hget : getD M (i : Int) = some (d.old.getD i []) := (getD_some hM.keys).2 ((hmem _ _).2 ⟨i, rfl, hi3, hold⟩)
   have ho64 := h.wf.old64 hi1
   refine ⟨fun w' => w'.cell? ⟨b, 1, none⟩ = some (.map (some m)) ∧ MapAt w' m iv stv M, ⟨hE4.c1, hM.keep (Fm.drew (fun _ => False) w4) (fun e => e)⟩, ?_⟩
   refine ⟨.map (some m), fun w' hw' => by simp only [RS, hw'.1]; exact ⟨(by trivial), (by trivial)⟩, ?_⟩
   refine ⟨stv (d.old.getD i []), fun w' hw' => ?_, ?_⟩
   ·refine af (em wS hw'.2 (i : Int) false (z9 _)) ?_
    simp only [hget, okV, cond_false]
    exact ⟨(by trivial), (by trivial)⟩
   have hsl := cQ (l := d.old.getD i []) (i := Dk.kept f) (by omega) .i64
   simp only [RS, hsl]
   have hE4d := hE4.drew
   refine (gi hE4d (by rw [hln]; exact hi1)).mono ?_
   rintro _ _ ⟨rfl, rfl⟩
   refine ⟨⟨hE4.c1, hM.keep (Fm.drew (fun _ => False) w4) (fun e => e)⟩, ?_⟩
   have hfl := Dk.flat_len hE4.wf.s1
   rw [hln] at hfl ⊢
   obtain ⟨o', hs, ho, hole⟩ := qz (g := g) (o := 64 * i) (n := 64) (c := 64 * d.cur.length - 64 * i) (i := Dk.kept f) hkl (by omega) .i64
   simp only [RS, hs]
   have hxl : ((d.old.getD i []).drop (Dk.kept f)).length = 64 - Dk.kept f := by rw [List.length_drop]; omega
   obtain ⟨w5, hr5, hby5, hs5, hf5⟩ := hE4d.by_.copyS B44 (o := o') (n := 64 - Dk.kept f) (x := (d.old.getD i []).drop (Dk.kept f)) (by omega) (by rw [hfl]; omega) (64 * d.cur.length - 64 * i - Dk.kept f) 3
   refine af hr5 ?_
   have hf25 : Fm (· = g) w4 w5 := (Fm.drew (fun _ => False) w4).trans hf5 (fun _ _ e => e.elim) (fun _ _ e => e)
   have hrow5 : BRow w5 g 5 (Dk.mid L d (k + 1)).cur.flatten := by
    rw [hi4]
    by_cases hk64 : Dk.kept f < 64
    ·have ho' := ho (by omega)
     rw [hxl, ho', show 64 * i + Dk.kept f + (64 - Dk.kept f) = 64 * i + 64 by omega, Dk.flat_lay hE4.wf.s1 (by rw [hln]; exact hi1) hkl hxl, hi2] at hby5
     exact hby5
    ·have hke : Dk.kept f = 64 := by omega
     have hx0 : (d.old.getD i []).drop (Dk.kept f) = [] := List.eq_nil_of_length_eq_zero (by rw [hxl]; omega)
     rw [hx0] at hby5
     simp only [List.append_nil, List.length_nil, Nat.add_zero, List.take_append_drop] at hby5
     have : Dk.torn f (d.cur.getD i []) (d.old.getD i []) = (Dk.mid L d k).cur.getD i [] := by
      rw [Dk.torn, hx0, hke, List.append_nil, hi2, List.take_of_length_le (by rw [h.wf.cur64 hi1]; omega)]
     rw [this]
     have hset : (Dk.mid L d k).cur.set i ((Dk.mid L d k).cur.getD i []) = (Dk.mid L d k).cur := by
      apply List.ext_getElem?
      intro j
      rw [List.getElem?_set]
      split
      ·rename_i e; subst e; rw [if_pos (by rw [hln]; exact hi1)]; exact (Dk.getD_eq (by rw [hln]; exact hi1)).symm
      ·rfl
     rw [hset]; exact hby5
   have hM5 := hM.keep hf25 (fun e => hE4.gm e.symm)
   have hst5 := hf25.heap hE4.st hE4.bg
   have g4 : IntKind.i64.wrap ((k : Int) + 1) = ((k + 1 : Nat) : Int) := by rw [ab] <;> omega
   simp only [RS, g4]
   refine ⟨⟨k + 1, rfl, by omega, ⟨h.wf.mid L (k + 1), ?_, hrow5, M, hM5, hmem⟩, ?_⟩, by simp only [bw]; omega⟩
   ·rw [hln] at hst5
    rw [Dk.mid_len]; exact hst5
   ·exact (hf.trans hF4 (U := fun x => x = b ∨ x = g ∨ x = m) (fun _ _ e => e) (fun _ _ e => e.elim)).trans hf25 (fun _ _ e => e) (fun _ _ e => .inr (.inl e))
  ·intro kk hkk
   have hL2 := hL.keepAny hF (fun hx q hq => by have := hLb (fun e => hx (by rw [e]; rfl)) q hq; omega)
   simp only [RS, hL2.lenV]
   by_cases hkL : k < L.length
   ·have e2 : decide ((k : Int) < (L.length : Int)) = true := by simpa using hkL
    have hLk : L[k]? = some L[k] := List.getElem?_eq_getElem hkL
    have hin := hr _ (List.getElem_mem hkL)
    generalize L[k] = f at hLk hin
    obtain ⟨ad2, hix2, _, hc2⟩ := hL2.at1 (i := k) (x := iv f) (by rw [List.getElem?_map, hLk]; rfl) .i64
    have hfa : Dk.fate L k = Dk.fold1 f := by unfold Dk.fate; rw [hLk]
    simp only [RS, e2, hix2, hc2, tH hin, aU, fO, qm, Option.bind_some, true_and]
    exact hkk _ _ ⟨by rw [hfa], .inr rfl⟩
   ·have e2 : decide ((k : Int) < (L.length : Int)) = false := by simpa using hkL
    have hfa : Dk.fate L k = 0 := by unfold Dk.fate; rw [List.getElem?_eq_none (by omega)]
    simp only [RS, e2]
    exact hkk _ _ ⟨by rw [hfa], .inl rfl⟩
 ·have hke : k = d.pend.length := by omega
  subst hke
  have e1 : decide ((d.pend.length : Int) < (d.pend.length : Int)) = false := by simp
  simp only [RS, e1, hE.c1]
  obtain ⟨M, hM, _⟩ := hE.mp
  obtain ⟨w4, hr4, hM4, hf4, _⟩ := lh Tryz.underlying124 hM 0
  refine af hr4 ?_
  have hst4 := hf4.heap hE.st hE.bm
  refine ay hst4 (by simp) rfl ?_
  intro w5 hw5 hs5 hf5
  refine ay hw5 (by simp) rfl ?_
  intro w6 hw6 hs6 hf6
  have hlen : (Dk.mended L d).length = d.cur.length := Dk.mended_len L d
  have hby6 := ((hE.by_.keep hf4 hE.gm).keep hf5 (fun e => hE.bg e.symm)).keep hf6 (fun e => hE.bg e.symm)
  rw [Dk.mid_end] at hby6
  have hM6 := (hM4.keep hf5 (fun e => hE.bm e.symm)).keep hf6 (fun e => hE.bm e.symm)
  have hF6 : Fm (fun x => x = b ∨ x = g ∨ x = m) w w6 := ((hF.trans hf4 (U := fun x => x = b ∨ x = g ∨ x = m) (fun _ _ e => e) (fun _ _ e => .inr (.inr e))).trans hf5 (U := fun x => x = b ∨ x = g ∨ x = m) (fun _ _ e => e) (fun _ _ e => .inl e)).trans hf6 (fun _ _ e => e) (fun _ _ e => .inl e)
  refine ⟨(by trivial), ⟨h.wf.crash L, ?_, hby6, [], hM6, ?_⟩, hF6⟩
  ·rw [hln] at hw6
   show w6.heap[b]? = some (.cells #[.slice (some ⟨g, 0, none⟩) (64 * (Dk.mended L d).length) (64 * (Dk.mended L d).length), .map (some m), iv 0, .bool false, iv d.done] 126)
   rw [hlen]; exact hw6
  ·intro k x
   constructor
   ·intro e; cases e
   ·rintro ⟨i, _, hc, _⟩
    have := Dk.isC_rep d.cur.length i
    rw [show (d.crash L).chg = List.replicate d.cur.length false from rfl, this] at hc; cases hc
def T76 (k : KV) (a0 b1 : Value) (w : World) : Prop :=
 Pu (lenV a0) fun t1 =>
 Pu (lenV b1) fun t2 =>
 Pu (aa (.int .i64) .neq t1 t2) fun t3 =>
 IfB t3
 (k (.bool false) w)
 (∃ (I4 : List Value → World → Prop) (m5 : List Value → World → Nat), I4 [(.int .i64 0)] w ∧
 ∀ (g26 : Fr) (w25 : World), ∀ i8 : Value, I4 [i8] w25 →
 (Pu (lenV a0) fun t27 =>
 Pu (aa (.int .i64) .lss i8 t27) fun t28 =>
 IfB t28
 (Pu (ixV 16 a0 i8) fun t29 =>
 LdN 16 (World.drew w25) t29 fun t30 w31 =>
 w31 = (World.drew w25) ∧
 Pu (ixV 16 b1 i8) fun t32 =>
 LdN 16 (World.drew w25) t32 fun t33 w34 =>
 w34 = (World.drew w25) ∧
 Cl prog 15 [t30, t33] (World.drew w25) fun t35 w36 =>
 Pu (unV .not t35) fun t37 =>
 IfB t37
 (k (.bool false) w36)
 (Pu (aa (.int .i64) .add i8 (.int .i64 1)) fun t38 =>
 I4 [t38] w36 ∧ m5 [t38] w36 < m5 [i8] w25))
 (k (.bool true) w25)))
theorem c76 {k : KV} {a0 b1 : Value} {w : World} (h : T76 k a0 b1 w) : Cl prog 76 [a0, b1] w k :=
 cE ac mixed (fun j => bif Nat.beq j 4 then [5] else []) J0 Tryz.func76 (by kernel_rfl) (by kernel_rfl) (by kernel_rfl) h
theorem kU {α : Type} {f : α → List Value} {n : Nat} : ∀ {L : List α}, (∀ x ∈ L, (f x).length = n) → ∀ {i : Nat} {x : α}, L[i]? = some x → ∀ {j : Nat}, j < n → (L.flatMap f)[i * n + j]? = (f x)[j]?
 | [], _, i, x, h, j, hj => by simp at h
 | y :: L, hf, 0, x, h, j, hj => by
  simp at h; subst h
  rw [List.flatMap_cons, Nat.zero_mul, Nat.zero_add, List.getElem?_append_left (by rw [hf y (by simp)]; exact hj)]
 | y :: L, hf, i + 1, x, h, j, hj => by
  have h' : L[i]? = some x := by simpa using h
  rw [List.flatMap_cons, List.getElem?_append_right (by rw [hf y (by simp), Nat.add_mul]; omega), hf y (by simp), show (i + 1) * n + j - n = i * n + j by rw [Nat.add_mul]; omega]
  exact kU (fun x hx => hf x (by simp [hx])) h' hj
theorem mJ {w : World} {v : Value} {C : List (Array Value)} (h : CellsAt w v C.length 16 (C.flatMap Array.toList)) (h16 : ∀ c ∈ C, c.size = 16) {k : Nat} {cs : Array Value} (hk : C[k]? = some cs) : ∃ ad, ixV 16 v (iv (k : Int)) = some (.pointer (some ad)) ∧ aP w ad 16 = some (.agg cs) := by
 have hi := (List.getElem?_eq_some_iff.1 hk).1
 obtain ⟨ad, h1, _, h3⟩ := h.at (by omega) hi .i64
 refine ⟨ad, h1, ?_⟩
 have := dq (w := w) (ad := ad) (l := cs.toList) (n := 16) (by rw [Array.length_toList]; exact h16 cs (List.mem_of_getElem? hk)) (fun j hj => by
  rw [h3 j hj, kU (n := 16) (fun c hc => by rw [Array.length_toList]; exact h16 c hc) hk hj])
 simpa using this
theorem fy {w : World} {va vb : Value} {C D : List (Array Value)} {out : List Rc} (hA : CellsAt w va C.length 16 (C.flatMap Array.toList)) (hB : CellsAt w vb D.length 16 (D.flatMap Array.toList)) (hc : C.length = out.length) (hd : D.length = out.length)
  (hC : ∀ (k : Nat) cs r, C[k]? = some cs → out[k]? = some r → RcAs w cs r) (hD : ∀ (k : Nat) cs r, D[k]? = some cs → out[k]? = some r → RcAs w cs r) : Cl prog 76 [va, vb] w fun r w' => r = .bool true ∧ Fm (fun _ => False) w w' := by
 have hlt := hA.lt
 unfold maxLen at hlt
 have h16 : ∀ {E : List (Array Value)}, E.length = out.length → (∀ (k : Nat) cs r, E[k]? = some cs → out[k]? = some r → RcAs w cs r) → ∀ c ∈ E, c.size = 16 := fun hl hE c hc' => by
  obtain ⟨k, hk⟩ := List.getElem?_of_mem hc'
  have hkl := (List.getElem?_eq_some_iff.1 hk).1
  exact (hE k c _ hk (List.getElem?_eq_getElem (by omega))).size
 have hCl : C.length = D.length := by omega
 refine c76 ?_; unfold T76
 simp only [RS, hA.lenV, hB.lenV, hCl, bne_self_eq_false]
 refine ⟨fun vl w2 => ∃ i : Nat, vl = [iv i] ∧ i ≤ D.length ∧ Fm (fun _ => False) w w2, fun vl _ => (D.length - nth vl 0).toNat, ⟨0, rfl, by omega, Fm.refl _ _⟩, ?_⟩
 rintro _ w2 ivv ⟨i, hvl, hi, hF⟩
 cases hvl
 by_cases hl : i < D.length
 ·have d1 : decide ((i : Int) < (D.length : Int)) = true := by rw [decide_eq_true_eq]; omega
  have e1 : IntKind.i64.wrap ((i : Int) + 1) = ((i + 1 : Nat) : Int) := by rw [ab] <;> omega
  have hx : C[i]? = some C[i] := List.getElem?_eq_getElem (by omega)
  have hy : D[i]? = some D[i] := List.getElem?_eq_getElem hl
  have ho : out[i]? = some out[i] := List.getElem?_eq_getElem (by omega)
  generalize C[i] = x at hx
  generalize D[i] = y at hy
  generalize out[i] = r at ho
  have hFd := Fmf hF (Fm.drew _ w2)
  obtain ⟨ad, h1, h2⟩ := mJ (hA.keep hFd (fun _ _ e => e)) (h16 hc hC) hx
  obtain ⟨ad', h3, h4⟩ := mJ (hB.keep hFd (fun _ _ e => e)) (h16 hd hD) hy
  simp only [RS, hA.lenV, hCl, d1, h1, h3, h2, h4, true_and]
  refine (il ((hC i x r hx ho).keep hFd) ((hD i y r hy ho).keep hFd)).mono ?_
  rintro _ w3 ⟨rfl, hf3⟩
  simp only [RS, decide_true, Bool.not_true, e1]
  exact ⟨⟨i + 1, rfl, by omega, Fmf hFd hf3⟩, by simp only [bw]; omega⟩
 ·have hie : i = D.length := by omega
  subst hie
  have d1 : decide (((D.length : Nat) : Int) < (D.length : Int)) = false := by simp
  simp only [RS, hA.lenV, hCl, d1]
  exact ⟨(by trivial), hF⟩
section
variable {w : World} {X : Nat → Prop} {b0 lb lr db dr g m : Nat} {v : Value} {L : Lg} {q : DkL} {d : Dk}
theorem oh (h : LAt w X lb db L) (hr : RL w b0 lr dr v L) : Cl prog 78 [pv lb, pv lr] w fun r w' => r = .bool true ∧ Fm (fun _ => False) w w' := by
 refine c78 ?_; unfold T78
 refine (cr h).mono ?_
 rintro _ w1 ⟨rfl, hf1⟩
 refine (bZ (hr.keep0 hf1)).mono ?_
 rintro _ w2 ⟨rfl, hf2⟩
 have hF2 := Fmf hf1 hf2
 simp only [RS, beq_self_eq_true]
 refine (jW (h.keep0 hF2)).mono ?_
 rintro _ w3 ⟨rfl, hf3⟩
 have hF3 := Fmf hF2 hf3
 refine (eB (hr.keep0 hF3)).mono ?_
 rintro _ w3 ⟨rfl, rfl⟩
 simp only [RS, beq_self_eq_true]
 refine (mu (h.keep0 hF3)).mono ?_
 rintro _ w4 ⟨rfl, hf4⟩
 have hF4 := Fmf hF3 hf4
 refine (dX (hr.keep0 hF4)).mono ?_
 rintro _ w4 ⟨rfl, rfl⟩
 simp only [RS, beq_self_eq_true]
 refine (ey (h.keep0 hF4)).mono ?_
 rintro _ w5 ⟨rfl, hf5⟩
 have hF5 := Fmf hF4 hf5
 refine (eH (hr.keep0 hF5)).mono ?_
 rintro _ w6 ⟨rfl, hf6⟩
 simp only [RS, beq_self_eq_true]
 exact ⟨(by trivial), Fmf hF5 hf6⟩
theorem ir (h : DAt w db g m d) (hr : DkAt w dr q d) : Cl prog 77 [pv db, pv dr] w fun r w' => r = .bool true ∧ Fm (fun _ => False) w w' := by
 have hdw := h.wf
 refine c77 ?_; unfold T77
 refine (dx h).mono ?_
 rintro _ w ⟨rfl, rfl⟩
 refine (fQ h 0 (d.cur.length : Int)).mono ?_
 rintro _ w ⟨rfl, rfl⟩
 simp only [RS]
 refine (gR hr hdw).mono ?_
 rintro _ w ⟨rfl, rfl⟩
 refine (eU hr hdw 0 (d.cur.length : Int)).mono ?_
 rintro _ w1 ⟨rfl, hf1⟩
 have hfd := Fm.drew (fun _ => False) w1
 have hFd := Fmf hf1 hfd
 simp only [RS]
 refine ⟨fun w' => Fm (fun _ => False) w1.drew w', Fm.refl _ _, ?_⟩
 simp only [RS, aD, decide_true, beq_self_eq_true]
 refine ⟨iv d.done, fun w' h' => ?_, ?_⟩
 ·simp only [RS, ((hr.keep0 hFd).keep0 h').c5] <;> trivial
 refine (oz (h.keep0 hFd)).mono ?_
 rintro _ w2 ⟨rfl, rfl⟩
 refine ⟨Fm.refl _ _, ?_⟩
 simp only [RS, beq_self_eq_true]
 refine (jl (h.keep0 hFd)).mono ?_
 rintro va w3 ⟨hva, _, hf3⟩
 have hl1 := (CellsAt.of_own hva).lenV
 have hF3 := Fmf hFd hf3
 simp only [RS, hl1]
 refine (lX (hr.keep0 hF3) hdw).mono ?_
 rintro vb w4 ⟨hvb, hf4⟩
 have hl2 := (CellsAt.of_own hvb).lenV
 simp only [RS, hl2, beq_self_eq_true]
 exact ⟨(by trivial), Fmf hF3 hf4⟩
end
theorem lJ (n : Int) : In (IntKind.i64.wrap n) := aQ (Go.WideShapes.wf_wrap .i64 n)
theorem oA {w : World} {b0 lr db : Nat} {v : Value} {L : Lg} (h : RL w b0 lr db v L) {cs : Array Value} {N nr : Int} (h1 : cs[1]? = some (iv N)) (h2 : cs[2]? = some (iv nr)) (hN : In N) :
  Cl prog 66 [pv lr, .agg cs] w fun r w' => ∃ n, r = iv n ∧ In n ∧ Fm (fun _ => False) w w' := by
 refine c66 ?_; unfold T66
 refine ao ?_
 intro x3 w1 hx hs1 hw1 hf1
 have hr1 := h.keep0 hf1
 have c1 : ∀ {w' : World}, Fm (fun _ => False) w1 w' → w'.cell? ⟨x3, 1, none⟩ = some (iv N) := fun hf => by rw [ag (hf.heap hw1 (fun e => e))]; exact h1
 have c2 : w1.cell? ⟨x3, 2, none⟩ = some (iv nr) := by rw [ag hw1]; exact h2
 have hfd := Fm.drew (fun _ => False) w1
 refine bG (fun vs w' => vs = [] ∧ Fm (fun _ => False) w1 w') ?_ ?_
 ·rintro _ w2 ⟨rfl, hf2⟩ _
  refine ⟨rfl, ?_⟩
  simp only [RS, c1 hf2]
  exact ⟨N, (by trivial), hN, Fmf hf1 hf2⟩
 intro jj hjj
 simp only [RS, c2, aA]
 cases q1 : decide (nr = 1) with
 | true =>
  simp only [RS]
  refine ⟨fun w' => Fm (fun _ => False) w1 w', hfd, ?_⟩
  refine ⟨iv N, fun w' h' => ?_, ?_⟩
  ·simp only [RS, c1 h'] <;> trivial
  refine (dX (hr1.keep0 hfd)).mono ?_
  rintro _ _ ⟨rfl, rfl⟩
  refine ⟨hfd, ?_⟩
  simp only [RS]
  exact ⟨_, (by trivial), lJ _, Fmf hf1 hfd⟩
 | false =>
 cases q2 : decide (nr = 2) with
 | true =>
  simp only [RS]
  refine ⟨fun w' => Fm (fun _ => False) w1 w', hfd, ?_⟩
  refine ⟨iv N, fun w' h' => ?_, ?_⟩
  ·simp only [RS, c1 h'] <;> trivial
  refine (bZ (hr1.keep0 hfd)).mono ?_
  rintro _ w3 ⟨rfl, hf3⟩
  refine ⟨Fmf hfd hf3, ?_⟩
  simp only [RS]
  exact ⟨_, (by trivial), lJ _, Fmf hf1 (Fmf hfd hf3)⟩
 | false =>
 cases q3 : decide (nr = 3) with
 | true =>
  simp only [RS]
  refine ⟨fun w' => Fm (fun _ => False) w1 w', hfd, ?_⟩
  refine ⟨iv N, fun w' h' => ?_, ?_⟩
  ·simp only [RS, c1 h'] <;> trivial
  refine (eB (hr1.keep0 hfd)).mono ?_
  rintro _ _ ⟨rfl, rfl⟩
  refine ⟨hfd, ?_⟩
  simp only [RS]
  exact ⟨_, (by trivial), lJ _, Fmf hf1 hfd⟩
 | false =>
 cases q4 : decide (nr = 4) with
 | false =>
  simp only [RS]
  exact hjj _ _ ⟨rfl, Fm.refl _ _⟩
 | true =>
 have hcA := CellsAt.of_own hr1.row
 have hlv := hcA.lenV
 have hcn := h.cnt
 by_cases hl : 0 < L.recs.length
 ·have d1 : decide ((0 : Int) < (L.recs.length : Int)) = true := by rw [decide_eq_true_eq]; omega
  have m1 := sA (TypeDesc.int .i64) (a := N) (b := (L.recs.length : Int)) (by omega) (by omega)
  obtain ⟨n1, n2, n3, n4⟩ := tq (n := L.recs.length) (by omega) N
  simp only [RS, hr1.c8, hlv, d1, c1 (Fm.refl _ _), m1, true_and]
  refine bG (fun vs w' => ∃ k : Nat, vs = [iv (k : Int)] ∧ k < L.recs.length ∧ Fm (fun _ => False) w1 w') ?_ ?_
  ·rintro _ w2 ⟨k, rfl, hk, hf2⟩ _
   refine ⟨_, rfl, ?_⟩
   have hx : L.recs[k]? = some L.recs[k] := List.getElem?_eq_getElem hk
   have hok := h.wf.ok _ (List.mem_of_getElem? hx)
   generalize L.recs[k] = x at hx hok
   obtain ⟨ad, k1, _, k2⟩ := (hcA.keep hf2 (fun _ _ e => e)).at1 (i := k) (x := iv x.1) (by unfold plsV; rw [List.getElem?_map, hx]; rfl) .i64
   simp only [RS, (hr1.keep0 hf2).c8, k1, k2]
   have hlow := h.wf.low
   exact ⟨_, (by trivial), by unfold In; omega, Fmf hf1 hf2⟩
  ·intro kk hkk
   by_cases hr : N.tmod (L.recs.length : Int) < 0
   ·have d2 : decide (N.tmod (L.recs.length : Int) < 0) = true := by simpa using hr
    have e3 : IntKind.i64.wrap (N.tmod (L.recs.length : Int) + (L.recs.length : Int)) = (((N.tmod (L.recs.length : Int) + (L.recs.length : Int)).toNat : Nat) : Int) := by rw [ab] <;> omega
    simp only [RS, d2, hr1.c8, hlv, e3]
    exact hkk _ _ ⟨_, rfl, by omega, hfd⟩
   ·have d2 : decide (N.tmod (L.recs.length : Int) < 0) = false := by simpa using hr
    simp only [RS, d2]
    exact hkk _ _ ⟨(N.tmod (L.recs.length : Int)).toNat, by congr 2; omega, by omega, hfd⟩
 ·have d1 : decide ((0 : Int) < (L.recs.length : Int)) = false := by rw [decide_eq_false_iff_not]; omega
  simp only [RS, hr1.c8, hlv, d1]
  exact hjj _ _ ⟨rfl, Fm.refl _ _⟩
def WP (X : Nat → Prop) (db g m : Nat) (y : Nat) : Prop := X y ∨ Dm db g m y
def WZ (lr : Nat) (v : Value) (dr : Nat) (q : DkL) (y : Nat) : Prop := RL.mine lr v y ∨ q.mine dr y
structure Wt (w0 w : World) (X : Nat → Prop) (lb db g m lr : Nat) (v : Value) (dr : Nat) (q : DkL) (L : Lg) (d : Dk) : Prop where
 hL : LAt w X lb db L
 hD : DAt w db g m d
 hR : RL w 0 lr dr v L
 hE : DkAt w dr q d
 str : Str L
 xd : ∀ y, X y → ¬ Dm db g m y
 rq : ∀ y, RL.mine lr v y → ¬ q.mine dr y
 dj : ∀ y, WP X db g m y → ¬ WZ lr v dr q y
 ge : ∀ y, WP X db g m y ∨ WZ lr v dr q y → w0.heap.size ≤ y
 fm : Fm (fun _ => False) w0 w
def WStep (w0 w w' : World) (X : Nat → Prop) (lb db g m lr : Nat) (v : Value) (dr : Nat) (q : DkL) (L' : Lg) (d' : Dk) : Prop :=
 ∃ X' v', Wt w0 w' X' lb db g m lr v' dr q L' d' ∧ (∀ y, WP X' db g m y ∨ WZ lr v' dr q y → (WP X db g m y ∨ WZ lr v dr q y) ∨ w.heap.size ≤ y) ∧ Fm (fun y => WP X db g m y ∨ WZ lr v dr q y) w w'
section
variable {w0 w w1 w2 w' : World} {X X1 S : Nat → Prop} {lb db g m lr dr : Nat} {v v2 : Value} {q : DkL} {L L' : Lg} {d d' : Dk}
theorem Wt.lt (h : Wt w0 w X lb db g m lr v dr q L d) : ∀ y, WP X db g m y ∨ WZ lr v dr q y → y < w.heap.size := by
 have hd := h.hD.lt
 rintro y ((hy | hy) | (hy | hy))
 ·exact h.hL.lt y hy
 ·rcases hy with rfl | rfl | rfl
  ·exact hd.1
  ·exact hd.2.1
  ·exact hd.2.2
 ·exact h.hR.lt y hy
 ·exact h.hE.lt y hy
theorem Wt.keep (h : Wt w0 w X lb db g m lr v dr q L d) (hf : Fm S w w') (hS : ∀ y, S y → ¬ (WP X db g m y ∨ WZ lr v dr q y) ∧ w0.heap.size ≤ y) : Wt w0 w' X lb db g m lr v dr q L d :=
 ⟨h.hL.keep hf (fun y hy e => (hS y e).1 (.inl (.inl hy))), h.hD.keep hf (fun e => (hS _ e).1 (.inl (.inr (.inl rfl)))) (fun e => (hS _ e).1 (.inl (.inr (.inr (.inl rfl))))) (fun e => (hS _ e).1 (.inl (.inr (.inr (.inr rfl))))),
  h.hR.keep hf (fun y hy e => (hS y e).1 (.inr (.inl hy))), h.hE.keep hf (fun y hy e => (hS y e).1 (.inr (.inr hy))), h.str, h.xd, h.rq, h.dj, h.ge, Fm.own h.fm hf (fun y e => (hS y e).2)⟩
theorem Wt.keep0 (h : Wt w0 w X lb db g m lr v dr q L d) (hf : Fm (fun _ => False) w w') : Wt w0 w' X lb db g m lr v dr q L d := h.keep hf (fun _ e => e.elim)
theorem Wt.mid (h : Wt w0 w X lb db g m lr v dr q L d) (hf : Fm (WP X db g m) w w1) : RL w1 0 lr dr v L ∧ DkAt w1 dr q d :=
 ⟨h.hR.keep hf (fun y hy e => h.dj y e (.inl hy)), h.hE.keep hf (fun y hy e => h.dj y e (.inr hy))⟩
theorem Wt.next (h : Wt w0 w X lb db g m lr v dr q L d) (hL1 : LAt w1 X1 lb db L') (hD1 : DAt w1 db g m d') (hf1 : Fm (WP X db g m) w w1) (hX1 : ∀ y, X1 y → X y ∨ w.heap.size ≤ y)
  (hR2 : RL w2 0 lr dr v2 L') (hE2 : DkAt w2 dr q d') (hf2 : Fm (WZ lr v dr q) w1 w2) (hv2 : ∀ y, RL.mine lr v2 y → RL.mine lr v y ∨ w1.heap.size ≤ y) (hs : Str L') : WStep w0 w w2 X lb db g m lr v dr q L' d' := by
 have hlt := h.lt
 have z0 := h.fm.size
 have z1 := hf1.size
 have hL1l := hL1.lt
 have hDl : ∀ y, Dm db g m y → y < w.heap.size := fun y hy => hlt y (.inl (.inr hy))
 have hql : ∀ y, q.mine dr y → y < w.heap.size := fun y hy => hlt y (.inr (.inr hy))
 have hml : ∀ y, RL.mine lr v y → y < w.heap.size := fun y hy => hlt y (.inr (.inl hy))
 have hXZ : ∀ y, X1 y → ¬ WZ lr v dr q y := fun y hy e => by
  rcases hX1 y hy with k | k
  ·exact h.dj y (.inl k) e
  ·have := hlt y (.inr e); omega
 refine ⟨X1, v2, ⟨hL1.keep hf2 hXZ, hD1.keep hf2 (fun e => h.dj _ (.inr (.inl rfl)) e) (fun e => h.dj _ (.inr (.inr (.inl rfl))) e) (fun e => h.dj _ (.inr (.inr (.inr rfl))) e), hR2, hE2, hs, ?_, ?_, ?_, ?_, ?_⟩, ?_, ?_⟩
 ·intro y hy e
  rcases hX1 y hy with k | k
  ·exact h.xd y k e
  ·have := hDl y e; omega
 ·intro y hy e
  rcases hv2 y hy with k | k
  ·exact h.rq y k e
  ·have := hql y e; omega
 ·rintro y (hy | hy) (e | e)
  ·have := hL1l y hy
   rcases hv2 y e with k | k
   ·exact hXZ y hy (.inl k)
   ·omega
  ·exact hXZ y hy (.inr e)
  ·rcases hv2 y e with k | k
   ·exact h.dj y (.inr hy) (.inl k)
   ·have := hDl y hy; omega
  ·exact h.dj y (.inr hy) (.inr e)
 ·rintro y ((hy | hy) | (hy | hy))
  ·rcases hX1 y hy with k | k
   ·exact h.ge y (.inl (.inl k))
   ·omega
  ·exact h.ge y (.inl (.inr hy))
  ·rcases hv2 y hy with k | k
   ·exact h.ge y (.inr (.inl k))
   ·omega
  ·exact h.ge y (.inr (.inr hy))
 ·exact Fm.own (Fm.own h.fm hf1 (fun y e => h.ge y (.inl e))) hf2 (fun y e => h.ge y (.inr e))
 ·rintro y ((hy | hy) | (hy | hy))
  ·exact (hX1 y hy).imp (fun k => .inl (.inl k)) id
  ·exact .inl (.inl (.inr hy))
  ·rcases hv2 y hy with k | k
   ·exact .inl (.inr (.inl k))
   ·exact .inr (by omega)
  ·exact .inl (.inr (.inr hy))
 ·exact (hf1.mono (fun y _ e => .inl e)).trans hf2 (fun _ _ e => e) (fun y _ e => .inr e)
theorem WStep.refl (h : Wt w0 w X lb db g m lr v dr q L d) (hf : Fm (fun _ => False) w w') : WStep w0 w w' X lb db g m lr v dr q L d := ⟨X, v, h.keep0 hf, fun y hy => .inl hy, hf.mono (fun _ _ e => e.elim)⟩
theorem Wt.one (h : Wt w0 w X lb db g m lr v dr q L d) (hL1 : LAt w1 X lb db L') (hf1 : Fm (· = lb) w w1) (hR2 : RL w2 0 lr dr v L') (hf2 : Fm (· = lr) w1 w2) (hs : Str L') : WStep w0 w w2 X lb db g m lr v dr q L' d := by
 have hlb := h.hL.lb
 have hf1' : Fm (WP X db g m) w w1 := hf1.mono (by rintro y _ rfl; exact .inl hlb)
 obtain ⟨hR1, hE1⟩ := h.mid hf1'
 have hf2' : Fm (WZ lr v dr q) w1 w2 := hf2.mono (by rintro y _ rfl; exact .inl (.inl rfl))
 exact h.next hL1 (h.hD.keep hf1 (by rintro rfl; exact h.xd _ hlb (.inl rfl)) (by rintro rfl; exact h.xd _ hlb (.inr (.inl rfl))) (by rintro rfl; exact h.xd _ hlb (.inr (.inr rfl)))) hf1' (fun y hy => .inl hy) hR2 (hE1.keep hf2 (by rintro y hy rfl; exact h.rq _ (.inl rfl) hy)) hf2' (fun y hy => .inl hy) hs
theorem Wt.reserve (h : Wt w0 w X lb db g m lr v dr q L d) (k : Int) {K : Value → Value → World → Prop} (hK : ∀ w2 (a : Int), WStep w0 w w2 X lb db g m lr v dr q (L.reserve k).1 d → K (iv a) (iv a) w2) :
  Cl prog 22 [pv lb, iv k] w fun t1 w1 => Cl prog 67 [pv lr, iv k] w1 fun t2 w2 => K t1 t2 w2 := by
 have hlb := h.hL.lb
 refine (jG h.hL k).mono ?_
 rintro _ w1 ⟨rfl, hL1, hf1⟩
 refine (iL (h.mid (hf1.mono (by rintro y _ rfl; exact .inl hlb))).1 k).mono ?_
 rintro _ w2 ⟨rfl, hR2, hf2⟩
 refine hK w2 _ (h.one hL1 hf1 hR2 hf2 (h.str.of ?_ ?_ ?_)) <;> (unfold Lg.reserve; cases decide (k < 0) <;> cases decide (L.room < k) <;> rfl)
theorem Wt.release (h : Wt w0 w X lb db g m lr v dr q L d) (k : Int) {K : Value → Value → World → Prop} (hK : ∀ w2 (a : Int), WStep w0 w w2 X lb db g m lr v dr q (L.release k).1 d → K (iv a) (iv a) w2) :
  Cl prog 23 [pv lb, iv k] w fun t1 w1 => Cl prog 68 [pv lr, iv k] w1 fun t2 w2 => K t1 t2 w2 := by
 have hlb := h.hL.lb
 refine (jR h.hL k).mono ?_
 rintro _ w1 ⟨rfl, hL1, hf1⟩
 refine (iJ (h.mid (hf1.mono (by rintro y _ rfl; exact .inl hlb))).1 k).mono ?_
 rintro _ w2 ⟨rfl, hR2, hf2⟩
 refine hK w2 _ (h.one hL1 hf1 hR2 hf2 (h.str.of ?_ ?_ ?_)) <;> (unfold Lg.release; cases decide (k < 0) || decide (L.res < k) <;> rfl)
theorem Wt.recycle (h : Wt w0 w X lb db g m lr v dr q L d) {k : Int} (hk : In k) {K : Value → Value → World → Prop} (hK : ∀ w2 (a : Int), WStep w0 w w2 X lb db g m lr v dr q (L.recycle k).1 d → K (iv a) (iv a) w2) :
  Cl prog 28 [pv lb, iv k] w fun t1 w1 => Cl prog 71 [pv lr, iv k] w1 fun t2 w2 => K t1 t2 w2 := by
 refine (jD h.hL k hk).mono ?_
 rintro _ w1 ⟨rfl, X', hL1, hX1, hf1⟩
 have hf1' : Fm (WP X db g m) w w1 := hf1.mono (fun y _ e => .inl e)
 obtain ⟨hR1, hE1⟩ := h.mid hf1'
 refine (iK hR1 (Nat.zero_le _) k).mono ?_
 rintro _ w2 ⟨rfl, v', hR2, hv2, hf2⟩
 exact hK w2 _ (h.next hL1 (h.hD.keep hf1 (fun e => h.xd _ e (.inl rfl)) (fun e => h.xd _ e (.inr (.inl rfl))) (fun e => h.xd _ e (.inr (.inr rfl)))) hf1' hX1 hR2 (hE1.keep hf2 (fun y hy e => h.rq y e hy)) (hf2.mono (fun y _ e => .inl e)) hv2 (h.str.recycle h.hL.wf k))
theorem pW (hs : Str L) (u : Int) (d : Dk) : Str (L.flush u d).1 := by
 unfold Lg.flush
 cases decide (u < (L.last : Int)) || decide (L.last = L.tail) with
 | true => exact hs
 | false =>
  cases decide ((L.flushE d).2 = 0) with
  | false => exact hs
  | true =>
   simp only [cond_true, cond_false]
   cases decide ((L.flushE d).1.sync.2 = 0) with
   | false => exact hs
   | true => exact hs.of rfl rfl rfl
theorem Wt.flush (h : Wt w0 w X lb db g m lr v dr q L d) (k : Int) {K : Value → Value → World → Prop} (hK : ∀ w2 (a : Int), WStep w0 w w2 X lb db g m lr v dr q (L.flush k d).1 (L.flush k d).2.1 → K (iv a) (iv a) w2) :
  Cl prog 26 [pv lb, iv k] w fun t1 w1 => Cl prog 69 [pv lr, iv k] w1 fun t2 w2 => K t1 t2 w2 := by
 have hlb := h.hL.lb
 refine (gK h.hL h.hD ⟨fun e => h.xd _ e (.inl rfl), fun e => h.xd _ e (.inr (.inl rfl)), fun e => h.xd _ e (.inr (.inr rfl))⟩ k).mono ?_
 rintro _ w1 ⟨rfl, hL1, hD1, hf1⟩
 have hf1' : Fm (WP X db g m) w w1 := hf1.mono (by
  rintro y _ (rfl | e)
  ·exact .inl hlb
  ·exact .inr e)
 obtain ⟨hR1, hE1⟩ := h.mid hf1'
 refine (kw hR1 hE1 h.hD.wf h.rq k).mono ?_
 rintro _ w2 ⟨rfl, hR2, hE2, hf2⟩
 exact hK w2 _ (h.next hL1 hD1 hf1' (fun y hy => .inl hy) hR2 hE2 (hf2.mono (by
  rintro y _ (rfl | e)
  ·exact .inl (.inl rfl)
  ·exact .inr e)) (fun y hy => .inl hy) (pW h.str k d))
theorem Wt.arm (h : Wt w0 w X lb db g m lr v dr q L d) {a : Int} (ha : a ≤ 9223372036854775807) {K : Value → Value → World → Prop} (hK : ∀ w2 (e : Int), WStep w0 w w2 X lb db g m lr v dr q L (d.arm a).1 → K (iv e) (iv e) w2) {C : World → Prop} (hC : ∀ w1, Fm (WP X db g m) w w1 → C w1) :
  Cl prog 56 [pv db, iv a] w fun t1 w1 => C w1 ∧ (Cl prog 57 [pv dr, iv a] w1 fun t2 w2 => K t1 t2 w2) := by
 refine (oV h.hD ha).mono ?_
 rintro _ w1 ⟨rfl, hD1, hf1⟩
 have hf1' : Fm (WP X db g m) w w1 := hf1.mono (by rintro y _ rfl; exact .inr (.inl rfl))
 obtain ⟨hR1, hE1⟩ := h.mid hf1'
 refine ⟨hC w1 hf1', ?_⟩
 refine (od hE1).mono ?_
 rintro _ w2 ⟨rfl, hE2, hf2⟩
 exact hK w2 _ (h.next (h.hL.keep hf1 (by rintro y hy rfl; exact h.xd _ hy (.inl rfl))) hD1 hf1' (fun y hy => .inl hy) (hR1.keep hf2 (fun y hy e => h.rq y hy e)) hE2 (hf2.mono (fun y _ e => .inr e)) (fun y hy => .inl hy) h.str)
end
section
variable {w0 w w1 w2 w' : World} {X X1 S : Nat → Prop} {lb db g m lr dr : Nat} {v v2 : Value} {q : DkL} {L L' : Lg} {d d' : Dk}
theorem Wt.opened (h : Wt w0 w X lb db g m lr v dr q L d) {p p2 ovA ovB : Value} {out : List Rc} {z : Prop} (hD1 : DAt w1 db g m d') (hf1 : Fm (Dm db g m) w w1) (hok1 : z → OpnOk w w1 p ovA db L' out) (hE2 : DkAt w2 dr q d') (hf2 : Fm (q.mine dr) w1 w2) (hok2 : z → ROk w1 w2 p2 ovB dr L' out) :
  DAt w2 db g m d' ∧ Fm (fun _ => False) w0 w2 ∧ (z → ∃ lb' X' lr' v' C D, p = pv lb' ∧ p2 = pv lr' ∧ Wt w0 w2 X' lb' db g m lr' v' dr q L' d' ∧ (∀ y, WP X' db g m y ∨ WZ lr' v' dr q y → (WP X db g m y ∨ WZ lr v dr q y) ∨ w.heap.size ≤ y) ∧ Fm (fun y => WP X db g m y ∨ WZ lr v dr q y) w w2 ∧
   CellsAt w2 ovA (List.length C) 16 (C.flatMap Array.toList) ∧ CellsAt w2 ovB (List.length D) 16 (D.flatMap Array.toList) ∧ C.length = out.length ∧ D.length = out.length ∧ (∀ (k : Nat) cs r, C[k]? = some cs → out[k]? = some r → RcAs w2 cs r) ∧ (∀ (k : Nat) cs r, D[k]? = some cs → out[k]? = some r → RcAs w2 cs r)) := by
 have hge := h.ge
 have hlt := h.lt
 have hf1' : Fm (WP X db g m) w w1 := hf1.mono (fun y _ e => .inr e)
 have hF1 := Fm.own h.fm hf1' (fun y e => hge y (.inl e))
 have z0 := h.fm.size
 have z1 := hf1.size
 have hqd : ∀ y, q.mine dr y → ¬ Dm db g m y := fun y hy e => h.dj y (.inr e) (.inr hy)
 have hD2 : DAt w2 db g m d' := hD1.keep hf2 (fun e => hqd _ e (.inl rfl)) (fun e => hqd _ e (.inr (.inl rfl))) (fun e => hqd _ e (.inr (.inr rfl)))
 have hF2 : Fm (fun _ => False) w0 w2 := Fm.own hF1 hf2 (fun y e => hge y (.inr (.inr e)))
 refine ⟨hD2, hF2, fun hz => ?_⟩
 obtain ⟨lb', X', Q, C, rfl, hL1, hoA, hCl, hC, hX', hQ, _⟩ := (hok1 hz).ex
 obtain ⟨lr', v', D, rfl, hR2, hstr, hmine, hoB, hDl, hD⟩ := (hok2 hz).ex
 have hL1l := hL1.lt
 have hql : ∀ y, q.mine dr y → y < w.heap.size := fun y hy => hlt y (.inr (.inr hy))
 have hDml : ∀ y, Dm db g m y → y < w.heap.size := fun y hy => hlt y (.inl (.inr hy))
 refine ⟨lb', X', lr', v', C, D, rfl, rfl, ⟨hL1.keep hf2 (fun y hy e => by have := hX' y hy; have := hql y e; omega), hD2, hR2, hE2, hstr, fun y hy e => ?_, fun y hy e => ?_, ?_, ?_, hF2⟩, ?_, ?_, CellsAt.of_own (ae hoA hf2 (fun y hy _ _ e => by have := hql y e; omega)), CellsAt.of_own hoB, hCl, hDl, fun k cs r h1 h2 => ?_, hD⟩
 ·have := hX' y hy; have := hDml y e; omega
 ·have := hmine y hy; have := hql y e; omega
 ·rintro y (hy | hy) (e | e)
  ·have := hL1l y hy; have := hmine y e; omega
  ·have := hX' y hy; have := hql y e; omega
  ·have := hDml y hy; have := hmine y e; omega
  ·exact hqd y e hy
 ·rintro y ((hy | hy) | (hy | hy))
  ·have := hX' y hy; omega
  ·exact hge y (.inl (.inr hy))
  ·have := hmine y hy; omega
  ·exact hge y (.inr (.inr hy))
 ·rintro y ((hy | hy) | (hy | hy))
  ·exact .inr (hX' y hy)
  ·exact .inl (.inl (.inr hy))
  ·exact .inr (by have := hmine y hy; omega)
  ·exact .inl (.inr (.inr hy))
 ·exact (hf1.mono (fun y _ e => .inl (.inr e))).trans hf2 (fun _ _ e => e) (fun y _ e => .inr (.inr e))
 ·exact ((hC k cs r h1 h2).keep hf2 (fun y hy e => by have := (hQ y hy).1; have := hql y e; omega)).now
end
abbrev RingT := Int × List OpT × Unit
def vRing : Vw prog 98 RingT := dG Tryz.underlying98 (aL rfl 1 (by kernel_rfl) vI (aL rfl 1 (by kernel_rfl) xo kr)) (by kernel_rfl)
def oS (x : RingT) : Nat := (1 + ((((x.2.1).map sq).sum + 1) + 0))
theorem vRing_szd : Szd vRing oS := Szd.struct (SzF.cons (Szd.one _) (SzF.cons (Szd.slice sC) SzF.nil))
theorem tQ {w : World} {cs : Array Value} {x : RingT} (h : vRing.rel w cs.toList x) : ∃ ov, cs = #[iv x.1, ov] ∧ SliceAs vOp w ov x.2.1 ∧ In x.1 := by
 obtain ⟨n, ops, u⟩ := x
 obtain ⟨c0, r0, he, ⟨rfl, g0⟩, c1, r1, rfl, ⟨ov, rfl, g1⟩, hr⟩ := h
 cases hr
 refine ⟨ov, ?_, g1, aQ g0⟩
 apply Array.ext'
 rw [he]; rfl
def opcells (x : OpT) (rc : Array Value) (hv : Value) : Array Value := ([iv x.1, iv x.2.1, iv x.2.2.1] ++ (rc.toList ++ [hv])).toArray
theorem uh {w : World} {v : Value} {xs : List OpT} (h : SliceAs vOp w v xs) {i : Nat} {x : OpT} (hx : xs[i]? = some x) (hz : kH x.2.2.2.1 ≤ 1048576) :
  ∃ ad rc hv, ixV 20 v (iv (i : Int)) = some (.pointer (some ad)) ∧ aP w ad 20 = some (.agg (opcells x rc hv)) ∧ rc.size = 16 ∧ RcAs w rc (rD x.2.2.2.1) ∧ In x.2.1 ∧ SliceAs vI w hv x.2.2.2.2.1 := by
 have hc : prog.cellsOf 44 = 20 := by kernel_rfl
 have hc28 : prog.cellsOf 28 = 16 := by kernel_rfl
 obtain ⟨ad, cs', h1, h2, h3, h4⟩ := h.ld hx hc .i64
 obtain ⟨ask, n, near, r, how, u⟩ := x
 obtain ⟨c0, r0, he, ⟨rfl, g0⟩, c1, r1, rfl, ⟨rfl, g1⟩, c2, r2, rfl, ⟨rfl, g2⟩, c3, r3, rfl, g3, c4, r4, rfl, ⟨hv, rfl, g4⟩, hr⟩ := h2
 cases hr
 have hl3 : c3.length = 16 := by rw [← hc28]; exact vRec.len g3
 simp only at g1 hz
 subst he
 refine ⟨ad, c3.toArray, hv, h1, ?_, by simpa using hl3, ?_, aQ g1, g4⟩
 ·rw [h3]; rfl
 ·exact uJ (by rw [List.toList_toArray]; exact g3) hz
theorem qM {w : World} {v : Value} {H : List Int} (h : SliceAs vI w v H) : CellsAt w v H.length 1 (H.map iv) ∧ ∀ f ∈ H, -9223372036854775808 ≤ f ∧ f ≤ 9223372036854775807 := by
 refine ⟨h.cells (by kernel_rfl) (fun _ _ h => h.1), fun f hf => ?_⟩
 obtain ⟨i, hi⟩ := List.getElem?_of_mem hf
 obtain ⟨ad, cs', _, hr, _⟩ := h.at hi (c := 1) (by kernel_rfl) .i64
 exact aQ hr.2
structure OW4 (w : World) (x : Nat) (o : OpT) (rc : Array Value) (hv : Value) : Prop where
 h : w.heap[x]? = some (.cells (opcells o rc hv) 44)
 sz : rc.size = 16
section
variable {w w' : World} {S : Nat → Prop} {x : Nat} {o : OpT} {rc : Array Value} {hv : Value}
theorem OW4.keep (h : OW4 w x o rc hv) (hf : Fm S w w') (hs : ¬ S x) : OW4 w' x o rc hv := ⟨hf.heap h.h hs, h.sz⟩
theorem OW4.c0 (h : OW4 w x o rc hv) : w.cell? ⟨x, 0, none⟩ = some (iv o.1) := by rw [ag h.h]; rfl
theorem OW4.c1 (h : OW4 w x o rc hv) : w.cell? ⟨x, 1, none⟩ = some (iv o.2.1) := by rw [ag h.h]; rfl
theorem OW4.c19 (h : OW4 w x o rc hv) : w.cell? ⟨x, 19, none⟩ = some hv := by
 have hl : rc.toList.length = 16 := by rw [Array.length_toList]; exact h.sz
 rw [ag h.h]
 unfold opcells
 rw [List.getElem?_toArray, List.getElem?_append_right (by simp), List.getElem?_append_right (by simp [hl])]
 simp [hl]
theorem gk (hs : rc.size = 16) : (opcells o rc hv).size = 20 := by
 unfold opcells
 simp [hs]
theorem OW4.rcd (h : OW4 w x o rc hv) : aP w ⟨x, 3, none⟩ 16 = some (.agg rc) := by
 have hl : rc.toList.length = 16 := by rw [Array.length_toList]; exact h.sz
 have := dq (w := w) (ad := ⟨x, 3, none⟩) (l := rc.toList) (n := 16) hl (fun j hj => by
  rw [bv, ag h.h]
  unfold opcells
  rw [List.getElem?_toArray, List.getElem?_append_right (by simp), List.getElem?_append_left (by simp [hl]; omega)]
  congr 1
  simp)
 simpa using this
theorem mA (h1 : ∀ u ∈ rc.toList, u.oneCell' = true) (h2 : hv.oneCell' = true) : ∀ u ∈ (opcells o rc hv).toList, u.oneCell' = true := by
 intro u hu
 unfold opcells at hu
 simp at hu
 rcases hu with rfl | rfl | rfl | hu | rfl
 ·rfl
 ·rfl
 ·rfl
 ·exact h1 u (by simpa using hu)
 ·exact h2
end
theorem oE {w0 w : World} {X : Nat → Prop} {lb db g m lr dr x5 x16 : Nat} {v ov hv : Value} {q : DkL} {L : Lg} {d : Dk} {N frm a : Int} {o : OpT} {rc : Array Value} {H : List Int} (h : Wt w0 w X lb db g m lr v dr q L d) (hO : OW4 w x16 o rc hv) (hx5 : w.heap[x5]? = some (.cells #[iv N, ov] 98)) (hn5 : ¬ (WP X db g m x5 ∨ WZ lr v dr q x5)) (hn16 : ¬ (WP X db g m x16 ∨ WZ lr v dr q x16)) (ha : a ≤ 9223372036854775807) (hh : SliceAs vI w0 hv H)
  {J : List Value → World → Prop} {k : KV} (hk : ∀ w', Fm (fun _ => False) w0 w' → k (.bool true) w')
  (hJ : ∀ w' X' lb' lr' v' L' d', Wt w0 w' X' lb' db g m lr' v' dr q L' d' → w'.heap[x5]? = some (.cells #[iv N, ov] 98) → ¬ (WP X' db g m x5 ∨ WZ lr' v' dr q x5) → J [pv lb', pv lr', .bool true] w') :
  Pu (faV 19 (pv x16)) fun t210_638 =>
                       Ld w t210_638 fun t211_639 w_640 =>
                       Cl prog 46 [pv db, t211_639] w_640 fun t212_641 w_642 =>
                       Pu (faV 19 (pv x16)) fun t214_643 =>
                       Ld w_642 t214_643 fun t215_644 w_645 =>
                       Cl prog 73 [pv dr, t215_644] w_645 fun t216_646 w_647 =>
                       Pu (faV 0 (pv x5)) fun t220_648 =>
                       Ld w_647 t220_648 fun t221_649 w_650 =>
                       Cl prog 74 [pv db, iv frm, t221_649, iv a] w_650 fun t223_651 w_652 =>
                       Pu (aJ t223_651 0) fun t224_653 =>
                       Pu (aJ t223_651 1) fun t225_654 =>
                       Pu (aJ t223_651 2) fun t226_655 =>
                       Pu (faV 0 (pv x5)) fun t230_656 =>
                       Ld w_652 t230_656 fun t231_657 w_658 =>
                       Cl prog 75 [pv dr, iv frm, t231_657, iv a] w_658 fun t233_659 w_660 =>
                       Pu (aJ t233_659 0) fun t234_661 =>
                       Pu (aJ t233_659 1) fun t235_662 =>
                       Pu (aJ t233_659 2) fun t236_663 =>
                       Pu (aa (TypeDesc.int .i64) .neq t226_655 t236_663) fun t239_664 =>
                       Gd (isB false t239_664) (fun kk => kk t224_653 w_660) w_660 fun t241_665 w_666 =>
                       Gd (isB false t239_664) (fun kk => Pu (aa (TypeDesc.pointer 132) .neq t241_665 (Value.pointer none)) fun vv => kk vv w_666) w_666 fun t242_667 w_668 =>
                       Gd (isB false t239_664) (fun kk => kk t236_663 w_668) w_668 fun t243_669 w_670 =>
                       Gd (isB false t239_664) (fun kk => Pu (aa (TypeDesc.int .i64) .eql t243_669 (Value.int .i64 0)) fun vv => kk vv w_670) w_670 fun t244_671 w_672 =>
                       Gd (isB false t239_664) (fun kk => Pu (aa TypeDesc.bool .neq t242_667 t244_671) fun vv => kk vv w_672) w_672 fun t245_673 w_674 =>
                       Pu (ak t239_664 (Value.bool true) t245_673) fun t246_675 =>
                       Gd (isB false t246_675) (fun kk => kk t225_654 w_674) w_674 fun t248_676 w_677 =>
                       Gd (isB false t246_675) (fun kk => kk t235_662 w_677) w_677 fun t249_678 w_679 =>
                       Gd (isB false t246_675) (fun kk => Cl prog 76 [t248_676, t249_678] w_679 kk) w_679 fun t250_680 w_681 =>
                       Gd (isB false t246_675) (fun kk => Pu (unV .not t250_680) fun vv => kk vv w_681) w_681 fun t251_682 w_683 =>
                       Pu (ak t246_675 (Value.bool true) t251_682) fun t252_684 =>
                       IfB t252_684
                        (k (Value.bool false) w_683)
                        (Pu (aa (TypeDesc.int .i64) .neq t236_663 (Value.int .i64 0)) fun t254_685 =>
                       IfB t254_685
                        (Cl prog 77 [pv db, pv dr] w_683 fun t257_686 w_687 =>
                         Gd (isB true t257_686) (fun kk => Cl prog 25 [] w_687 kk) w_687 fun t259_688 w_689 =>
                         Pu (ak t257_686 t259_688 (Value.bool false)) fun t260_690 =>
                         k t260_690 w_689)
                        (J [t224_653, t234_661, (Value.bool true)] w_683)) := by
 obtain ⟨hH1, hH2⟩ := qM hh
 have hge := h.ge
 have hblk : H ≠ [] → ∀ y, cd hv = some y → y < w0.heap.size := fun hne y hy => hH1.blt (fun e => hne (List.map_eq_nil_iff.1 e)) y hy
 simp only [RS, hO.c19]
 refine (lN h.hD (hH1.keep h.fm (fun _ _ e => e)) (fun hne y hy => ?_) hH2).mono ?_
 ·have := hblk hne y hy
  exact ⟨fun e => by have := hge y (.inl (.inr (.inl e))); omega, fun e => by have := hge y (.inl (.inr (.inr (.inl e)))); omega, fun e => by have := hge y (.inl (.inr (.inr (.inr e)))); omega⟩
 rintro _ w1 ⟨rfl, hD1, hf1⟩
 have hf1' : Fm (WP X db g m) w w1 := hf1.mono (fun y _ e => .inr e)
 obtain ⟨hR1, hE1⟩ := h.mid hf1'
 have hF1 := Fm.own h.fm hf1' (fun y e => hge y (.inl e))
 have hO1 := hO.keep hf1' (fun e => hn16 (.inl e))
 simp only [RS, hO1.c19]
 refine (lu hE1 h.hD.wf (hH1.keep hF1 (fun _ _ e => e)) (fun hne y hy e => by have := hblk hne y hy; have := hge y (.inr (.inr e)); omega) hH2).mono ?_
 rintro _ w2 ⟨rfl, hE2, hf2⟩
 obtain ⟨X2, v2, hW2, hg2, hF2⟩ := h.next (h.hL.keep hf1 (fun y hy e => h.xd y hy e)) hD1 hf1' (fun y hy => .inl hy) (hR1.keep hf2 (fun y hy e => h.rq y hy e)) hE2 (hf2.mono (fun y _ e => .inr e)) (fun y hy => .inl hy) h.str
 have hx5_2 := hF2.heap hx5 hn5
 have hx5l := aq hx5
 have hn5_2 : ¬ (WP X2 db g m x5 ∨ WZ lr v2 dr q x5) := fun e => (hg2 _ e).elim hn5 (fun k => by omega)
 have z2 := hF2.size
 have c0 : w2.cell? ⟨x5, 0, none⟩ = some (iv N) := by rw [ag hx5_2]; rfl
 generalize d.crash H = dc at hW2
 simp only [RS, c0]
 refine (iY hW2.hD frm N a ha).mono ?_
 rintro _ w3 ⟨p, ovA, rfl, hD3, hf3, he3, hok3⟩
 have hf3' : Fm (WP X2 db g m) w2 w3 := hf3.mono (fun y _ e => .inr e)
 obtain ⟨hR3, hE3⟩ := hW2.mid hf3'
 have hx5_3 := hf3'.heap hx5_2 (fun e => hn5_2 (.inl e))
 have c0' : w3.cell? ⟨x5, 0, none⟩ = some (iv N) := by rw [ag hx5_3]; rfl
 simp only [RS, c0']
 refine (me hE3 hW2.hD.wf frm N a ha).mono ?_
 rintro _ w4 ⟨p2, ovB, rfl, hE4, hf4, he4, hok4⟩
 have hopen := hW2.opened (z := (fh dc frm N a).2 = 0) hD3 hf3 hok3 hE4 hf4 hok4
 obtain ⟨hD4, hF4, hrest⟩ := hopen
 by_cases hz : (fh dc frm N a).2 = 0
 ·obtain ⟨lb', X', lr', v', C, D, rfl, rfl, hW4, hg4, hFw, hrA, hrB, hCl, hDl, hC, hD⟩ := hrest hz
  have hx5_4 := hFw.heap hx5_2 hn5_2
  rw [hz]
  simp only [RS, bne_self_eq_false, show ((0 : Int) == 0) = true from rfl]
  refine (fy hrA hrB hCl hDl hC hD).mono ?_
  rintro _ w5 ⟨rfl, hf5⟩
  simp only [RS, Bool.not_true]
  exact hJ w5 X' lb' lr' v' _ _ (hW4.keep0 hf5) (hf5.heap hx5_4 (fun e => e)) (fun e => (hg4 _ e).elim hn5_2 (fun k => by omega))
 ·obtain ⟨rfl, rfl⟩ := he3 hz
  obtain ⟨rfl, rfl⟩ := he4 hz
  have d1 : ((fh dc frm N a).2 == 0) = false := by rw [aA]; simpa using hz
  have d2 : ((fh dc frm N a).2 != 0) = true := by rw [al]; simpa using hz
  simp only [RS, bne_self_eq_false, d1, d2]
  refine (fy (C := []) (D := []) (out := []) (CellsAt.of_own (World.ownsRow_nil w4 0 28 16)) (CellsAt.of_own (World.ownsRow_nil w4 0 28 16)) rfl rfl (fun k cs r h1 _ => by simp at h1) (fun k cs r h1 _ => by simp at h1)).mono ?_
  rintro _ w5 ⟨rfl, hf5⟩
  simp only [RS, Bool.not_true]
  refine (ir (hD4.keep0 hf5) (hE4.keep0 hf5)).mono ?_
  rintro _ w6 ⟨rfl, hf6⟩
  simp only [RS]
  refine (fk w6).mono ?_
  rintro _ w7 ⟨rfl, hf7⟩
  try simp only [RS]
  exact hk _ (Fmf hF4 (Fmf hf5 (Fmf hf6 hf7)))
theorem wv : ((1 : Int) == 0) = false := rfl
theorem uk : ((0 : Int) == 0) = true := rfl
theorem wi : ((1 : Int) != 0) = true := rfl
theorem wplays_law {w : World} {cs : Array Value} {x : RingT} (sectors frm : Int) (hv : vRing.rel w cs.toList x) (hz : oS x ≤ 1048576) : Cl prog 12 [iv sectors, iv frm, .agg cs] w fun r w' => r = .bool true ∧ Fm (fun _ => False) w w' := by
 obtain ⟨ov, rfl, hops, hN⟩ := tQ hv
 obtain ⟨N, xs, u0⟩ := x
 simp only at hops hN
 have hzz : (xs.map sq).sum ≤ 1048576 := by unfold oS at hz; simp only at hz; omega
 have hlv : lenV ov = some (iv (xs.length : Int)) := hops.lenV
 have hlx := (ops_sum (l := xs)).1
 refine c12 ?_; unfold T12
 refine ao ?_
 intro x5 w0 hx5 hs0 hw0 hf0
 replace hw0 : w0.heap[x5]? = some (.cells #[iv N, ov] 98) := hw0
 refine (kj w0 sectors).mono ?_
 rintro _ w1 ⟨hbad1, hok1⟩
 by_cases hsec : sectors < 1 ∨ 65536 < sectors
 ·obtain ⟨rfl, rfl⟩ := hbad1 hsec
  simp only [RS]
  refine (jq w1 sectors).mono ?_
  rintro _ w2 ⟨hbad2, _⟩
  obtain ⟨rfl, rfl⟩ := hbad2 hsec
  simp only [RS, bne_self_eq_false, wv, wi]
  refine (fk w2).mono ?_
  rintro _ w3 ⟨rfl, hf3⟩
  exact ⟨(by trivial), Fmf hf0 hf3⟩
 obtain ⟨b, g, m, rfl, hb, hg, hm, hd, hf1⟩ := hok1 hsec
 clear hbad1 hok1
 have hdl := hd.lt
 have z0 := hf0.size; have z1 := hf1.size
 simp only [RS]
 refine (jq w1 sectors).mono ?_
 rintro _ w2 ⟨_, hok2⟩
 obtain ⟨dr, q, rfl, hq, hE, hf2⟩ := hok2 hsec
 clear hok2
 have z2 := hf2.size
 have hql := hE.lt
 have hd2 := hd.keep0 hf2
 simp only [RS, bne_self_eq_false, uk]
 have hF2 := Fmf hf0 (Fmf hf1 hf2)
 have hF12 := Fmf hf1 hf2
 cases hbig : decide (4096 < sectors) with
 | true =>
  simp only [RS]
  refine (fk w2).mono ?_
  rintro _ w3 ⟨rfl, hf3⟩
  exact ⟨(by trivial), Fmf hF2 hf3⟩
 | false =>
 have hx5_2 := hF12.heap hw0 (fun e => e)
 have c0 : w2.cell? ⟨x5, 0, none⟩ = some (iv N) := by rw [ag hx5_2]; rfl
 have hd0w := hd.wf
 generalize Dk.mk0 sectors.toNat = dd at hd2 hE hd0w hd
 have hx0 := aq hw0
 simp only [RS, c0]
 refine (gf hd2 frm N).mono ?_
 rintro _ w3 ⟨p, rfl, hd3, hf3, hp0, hp1⟩
 have z3 := hf3.size
 have hE3 := hE.keep hf3 (fun y hy e => by have := hq y hy; rcases e with rfl | rfl | rfl <;> omega)
 have hx5_3 := hf3.heap hx5_2 (fun e => by rcases e with rfl | rfl | rfl <;> omega)
 have c0' : w3.cell? ⟨x5, 0, none⟩ = some (iv N) := by rw [ag hx5_3]; rfl
 simp only [RS, c0']
 refine (jL hE3 hd0w frm N).mono ?_
 rintro _ w4 ⟨p2, rfl, hE4, hf4, hp2, hp3⟩
 have z4 := hf4.size
 have hqno : ∀ y, q.mine dr y → w1.heap.size ≤ y ∧ y < w2.heap.size := fun y hy => ⟨hq y hy, hql y hy⟩
 have hd4 := hd3.keep hf4 (fun e => by have := hqno _ e; omega) (fun e => by have := hqno _ e; omega) (fun e => by have := hqno _ e; omega)
 have hx5_4 := hf4.heap hx5_3 (fun e => by have := hqno _ e; omega)
 have hF4 : Fm (fun _ => False) w w4 := Fm.own (Fm.own hF2 hf3 (by rintro y (rfl | rfl | rfl) <;> omega)) hf4 (fun y hy => by have := hqno y hy; omega)
 by_cases hfe : (jf dd frm N).2 = 0
 rotate_left
 ·have e1 := hp0 hfe
  subst e1
  have d1 : ((jf dd frm N).2 == 0) = false := by rw [aA]; simpa using hfe
  have d2 : ((jf dd frm N).2 != 0) = true := by rw [al]; simpa using hfe
  simp only [RS, bne_self_eq_false, d1, d2]
  refine (fk w4).mono ?_
  rintro _ w5 ⟨rfl, hf5⟩
  exact ⟨(by trivial), Fmf hF4 hf5⟩
 obtain ⟨lb, X, rfl, hL3, hX⟩ := hp1 hfe
 obtain ⟨lr, rfl, hR4, hlr⟩ := hp3 hfe
 have hXl := hL3.lt
 have hL4 := hL3.keep hf4 (fun y hy e => by have := hqno y e; have := hX y hy; omega)
 have hlrl := aq hR4.st
 have hRmine : ∀ y, RL.mine lr nl y → y = lr := by
  rintro y (e | e)
  ·exact e
  ·cases e
 rw [hfe]
 have hW : Wt w w4 X lb b g m lr nl dr q (Lg.new frm.toNat N.toNat) (jf dd frm N).1 := by
  refine ⟨hL4, hd4, ⟨hR4.wf, hR4.inc, hR4.st, aW hR4.row (Nat.zero_le _)⟩, hE4, (fun p hp => by cases hp), ?_, ?_, ?_, ?_, hF4⟩
  ·intro y hy e
   have := hX y hy
   rcases e with rfl | rfl | rfl <;> omega
  ·intro y hy e
   rw [hRmine y hy] at e
   have := hqno _ e; omega
  ·rintro y (hy | hy) (e | e)
   ·have := hXl y hy; have := hRmine y e; omega
   ·have := hX y hy; have := hqno y e; omega
   ·have := hRmine y e; rcases hy with rfl | rfl | rfl <;> omega
   ·have := hqno y e; rcases hy with rfl | rfl | rfl <;> omega
  ·rintro y ((hy | hy) | (hy | hy))
   ·have := hX y hy; omega
   ·rcases hy with rfl | rfl | rfl <;> omega
   ·have := hRmine y hy; omega
   ·have := hqno y hy; omega
 have hn5 : ¬ (WP X b g m x5 ∨ WZ lr nl dr q x5) := by
  rintro ((hy | hy) | (hy | hy))
  ·have := hX _ hy; omega
  ·rcases hy with e | e | e <;> omega
  ·have := hRmine _ hy; omega
  ·have := hqno _ hy; omega
 generalize Lg.new frm.toNat N.toNat = L0 at hW
 generalize (jf dd frm N).1 = d0 at hW
 simp only [RS, bne_self_eq_false, uk]
 refine ⟨fun vs w' => ∃ (i : Nat) (X : Nat → Prop) (lb lr : Nat) (v : Value) (L : Lg) (d : Dk), vs = [pv lb, pv lr, iv (i : Int)] ∧ i ≤ xs.length ∧ Wt w w' X lb b g m lr v dr q L d ∧ w'.heap[x5]? = some (.cells #[iv N, ov] 98) ∧ ¬ (WP X b g m x5 ∨ WZ lr v dr q x5), fun vs _ => (xs.length - nth vs 2).toNat, ⟨0, X, lb, lr, _, L0, d0, rfl, by omega, hW, hx5_4, hn5⟩, ?_⟩
 clear hW hn5 hx5_4 hR4 hL4 hE4 hd4 hF4 hL3 hX hXl hd3 hE3 hlr hlrl hRmine hp0 hp1 hp2 hp3 hqno hf3 hf4 hx5_3 hx5_2 hd2 hE hd hql hq hb hg hm hdl hF2 hF12 hf1 hf2 c0 c0' hfe hd0w
 rintro _ w5 lv mv ivv ⟨i, X, lb, lr, v, L, d, hvs, hi, hW, hx5w, hn5⟩
 cases hvs
 have c1 : w5.cell? ⟨x5, 1, none⟩ = some ov := by rw [ag hx5w]; rfl
 by_cases hl : i < xs.length
 rotate_left
 ·have d1 : decide ((i : Int) < (xs.length : Int)) = false := by rw [decide_eq_false_iff_not]; omega
  simp only [RS, c1, hlv, d1]
  refine (fk w5).mono ?_
  rintro _ w8 ⟨rfl, hf8⟩
  exact ⟨(by trivial), Fmf hW.fm hf8⟩
 have d1 : decide ((i : Int) < (xs.length : Int)) = true := by rw [decide_eq_true_eq]; omega
 have ei : IntKind.i64.wrap ((i : Int) + 1) = ((i + 1 : Nat) : Int) := by rw [ab] <;> omega
 have hx : xs[i]? = some xs[i] := List.getElem?_eq_getElem hl
 have hoz := ops_sum.2 _ (List.mem_of_getElem? hx)
 generalize xs[i] = o at hx hoz
 obtain ⟨ad, rc, hwv, hix, hcv, hrsz, hrec, hIn, hhow⟩ := uh hops hx (by omega)
 have hcv5 := aZ hcv hW.fm (fun e => e)
 have hhone : hwv.oneCell' = true := by obtain ⟨⟨a, cap, rfl, _⟩, _⟩ := hhow; rfl
 simp only [RS, c1, hlv, d1, hix, hcv5]
 refine ao ?_
 intro x16 w6 hx16 hs6 hw6 hf6
 refine aB hw6 rfl (gk hrsz) (mA hrec.one hhone) ?_
 intro w7 hw7 hs7 hf7
 have hF7 : Fm (fun _ => False) w5 w7 := Fm.own hf6 hf7 (by rintro y rfl; omega)
 have hW7 := hW.keep0 hF7
 have hO7 : OW4 w7 x16 o rc hwv := ⟨hw7, hrsz⟩
 have hx16l := aq hw7
 simp only [RS, ax hw7 (gk hrsz)]
 refine (oA hW7.hR (cs := opcells o rc hwv) (N := o.2.1) (nr := o.2.2.1) rfl rfl hIn).mono ?_
 rintro _ w9 ⟨n, rfl, hn, hf9⟩
 have hF9 := Fmf hF7 hf9
 have hW9 := hW.keep0 hF9
 have hO9 := hO7.keep hf9 (fun e => e)
 have hx5_9 := hF9.heap hx5w (fun e => e)
 have z5 := hW.fm.size
 have z9 := hF9.size
 have z79 := hf9.size
 have hx5l := aq hx5w
 have hlt5 := hW.lt
 have hn16 : ¬ (WP X b g m x16 ∨ WZ lr v dr q x16) := fun e => by have := hlt5 _ e; omega
 refine bG (fun vs w' => ∃ X lb lr v L d, vs = [pv lb, pv lr, .bool true] ∧ Wt w w' X lb b g m lr v dr q L d ∧ w'.heap[x5]? = some (.cells #[iv N, ov] 98) ∧ ¬ (WP X b g m x5 ∨ WZ lr v dr q x5)) ?_ ?_
 ·rintro _ wA ⟨X', lb', lr', v', L', d', rfl, hWA, hx5A, hn5A⟩ _
  refine ⟨_, _, _, rfl, ?_⟩
  simp only [RS, Bool.not_true]
  refine (oh hWA.hL hWA.hR).mono ?_
  rintro _ wB ⟨rfl, hfB⟩
  have hWB := hWA.keep0 hfB
  simp only [RS, Bool.not_true]
  refine (ja hWB.hD).mono ?_
  rintro _ wB ⟨rfl, rfl⟩
  have fin : ∀ wC, Fm (fun _ => False) wB wC → (∃ (i' : Nat) (X : Nat → Prop) (lb lr : Nat) (v : Value) (L : Lg) (d : Dk), [pv lb', pv lr', iv ((i + 1 : Nat) : Int)] = [pv lb, pv lr, iv (i' : Int)] ∧ i' ≤ xs.length ∧ Wt w wC X lb b g m lr v dr q L d ∧ wC.heap[x5]? = some (.cells #[iv N, ov] 98) ∧ ¬ (WP X b g m x5 ∨ WZ lr v dr q x5)) := fun wC hfC =>
   ⟨i + 1, X', lb', lr', v', L', d', rfl, by omega, hWB.keep0 hfC, hfC.heap (hfB.heap hx5A (fun e => e)) (fun e => e), hn5A⟩
  cases hgo : d'.gone with
  | true =>
   simp only [RS, Bool.not_true, ei]
   exact ⟨fin _ (Fm.refl _ _), by simp only [tm]; omega⟩
  | false =>
   have hc4 := hWB.hE.c4
   rw [hgo] at hc4
   simp only [RS, Bool.not_false, hc4]
   refine (ir hWB.hD hWB.hE).mono ?_
   rintro _ wC ⟨rfl, hfC⟩
   simp only [RS, Bool.not_true, ei]
   exact ⟨fin _ hfC, by simp only [tm]; omega⟩
 intro jj hjj
 have stp : ∀ {wA : World} {L' : Lg} {d' : Dk}, WStep w w9 wA X lb b g m lr v dr q L' d' → jj [pv lb, pv lr, .bool true] wA := by
  rintro wA L' d' ⟨X', v', hW', hg, hf⟩
  exact hjj _ _ ⟨X', lb, lr, v', L', d', rfl, hW', hf.heap hx5_9 hn5, fun e => (hg _ e).elim hn5 (fun k => by omega)⟩
 simp only [RS, hO9.c0, aA]
 cases q0 : decide (o.1 = 0) with
 | true =>
  simp only [RS, hO9.rcd]
  refine (dY hW9.hL (fun w' hf => hrec.keep (Fm.own hW9.fm hf (fun y e => hW9.ge y (.inl (.inl e)))))).mono ?_
  rintro _ w10 ⟨rfl, X', hL1, hX1, hf1⟩
  have hf1' : Fm (WP X b g m) w9 w10 := hf1.mono (fun y _ e => .inl e)
  obtain ⟨hR1, hE1⟩ := hW9.mid hf1'
  have hO10 := hO9.keep hf1' (fun e => hn16 (.inl e))
  simp only [RS, hO10.rcd]
  refine (jB hR1 (Nat.zero_le _) (hrec.keep (Fm.own hW9.fm hf1' (fun y e => hW9.ge y (.inl e))))).mono ?_
  rintro _ w11 ⟨rfl, v', hR2, hv2, hf2⟩
  simp only [RS, beq_self_eq_true]
  exact stp (hW9.next hL1 (hW9.hD.keep hf1 (fun e => hW9.xd _ e (.inl rfl)) (fun e => hW9.xd _ e (.inr (.inl rfl))) (fun e => hW9.xd _ e (.inr (.inr rfl)))) hf1' hX1 hR2 (hE1.keep hf2 (fun y hy e => hW9.rq y e hy)) (hf2.mono (fun y _ e => .inl e)) hv2 (hW9.str.append hW9.hL.wf _))
 | false =>
 cases q1 : decide (o.1 = 1) with
 | true =>
  try simp only [RS]
  refine hW9.reserve n (fun wA a hst => ?_)
  simp only [RS, beq_self_eq_true]
  exact stp hst
 | false =>
 cases q2 : decide (o.1 = 2) with
 | true =>
  try simp only [RS]
  refine hW9.release n (fun wA a hst => ?_)
  simp only [RS, beq_self_eq_true]
  exact stp hst
 | false =>
 cases q3 : decide (o.1 = 3) with
 | true =>
  try simp only [RS]
  refine hW9.flush n (fun wA a hst => ?_)
  simp only [RS, beq_self_eq_true]
  exact stp hst
 | false =>
 cases q4 : decide (o.1 = 4) with
 | true =>
  try simp only [RS]
  refine (qx hW9.hL n).mono ?_
  rintro v1 w10 ⟨hf10, hc1⟩
  have k1 : ∃ cs1, v1 = .tuple #[.agg cs1, iv (if (getD L.recs n).isNone then 51 else 0)] ∧ RcAs w10 cs1 ((getD L.recs n).getD rc0) := by
   rcases hc1 with ⟨hg, rfl⟩ | ⟨rr, cs1, hg, rfl, hA⟩
   ·rw [hg]; exact ⟨_, rfl, (rK w10 0).asR we⟩
   ·rw [hg]; exact ⟨_, rfl, hA⟩
  obtain ⟨cs1, rfl, hA1⟩ := k1
  clear hc1
  have hW10 := hW9.keep0 hf10
  simp only [RS]
  refine ao ?_
  intro x23 w11 hx23 hs11 hw11 hf11
  refine aB hw11 rfl hA1.size hA1.one ?_
  intro w12 hw12 hs12 hf12
  have hF12 : Fm (fun _ => False) w10 w12 := Fm.own hf11 hf12 (by rintro y rfl; omega)
  have hW12 := hW10.keep0 hF12
  refine (om hW12.hR hW12.str n).mono ?_
  rintro v2 w13 ⟨hf13, hc2⟩
  have k2 : ∃ cs2, v2 = .tuple #[.agg cs2, iv (if (getD L.recs n).isNone then 51 else 0)] ∧ RcAs w13 cs2 ((getD L.recs n).getD rc0) := by
   rcases hc2 with ⟨hg, rfl⟩ | ⟨rr, cs2, hg, rfl, hA⟩
   ·rw [hg]; exact ⟨_, rfl, (rK w13 0).asR we⟩
   ·rw [hg]; exact ⟨_, rfl, hA⟩
  obtain ⟨cs2, rfl, hA2⟩ := k2
  clear hc2
  simp only [RS]
  refine ao ?_
  intro x25 w14 hx25 hs14 hw14 hf14
  refine aB hw14 rfl hA2.size hA2.one ?_
  intro w15 hw15 hs15 hf15
  have hF15 : Fm (fun _ => False) w13 w15 := Fm.own hf14 hf15 (by rintro y rfl; omega)
  have hw12' := hF15.heap (hf13.heap hw12 (fun e => e)) (fun e => e)
  generalize (if (getD L.recs n).isNone then (51 : Int) else 0) = er
  generalize (getD L.recs n).getD rc0 = rr at hA1 hA2
  simp only [RS, beq_self_eq_true, ax hw12' hA1.size, ax hw15 hA2.size]
  refine (il (((hA1.keep hF12).keep hf13).keep hF15) (hA2.keep hF15)).mono ?_
  rintro _ w16 ⟨rfl, hf16⟩
  simp only [RS, decide_true]
  exact stp (WStep.refl hW9 (Fmf hf10 (Fmf hF12 (Fmf hf13 (Fmf hF15 hf16)))))
 | false =>
 cases q5 : decide (o.1 = 5) with
 | true =>
  try simp only [RS]
  refine hW9.recycle hn (fun wA a hst => ?_)
  simp only [RS, beq_self_eq_true]
  exact stp hst
 | false =>
 cases q6 : decide (o.1 = 6) with
 | true =>
  have hfd := Fm.drew (fun _ => False) w9
  have hW9d := hW9.keep0 hfd
  have hO9d := hO9.keep hfd (fun e => e)
  refine ⟨fun w' => w'.cell? ⟨x16, 1, none⟩ = some (iv o.2.1), hO9d.c1, ?_⟩
  simp only [RS, hO9.c1, true_and]
  refine ⟨iv o.2.1, fun w' h' => ?_, ?_⟩
  ·simp only [RS, h'] <;> trivial
  refine hW9d.arm hIn.2 (fun wA a hst => ?_) (fun w1 hf => ?_)
  ·simp only [RS, beq_self_eq_true]
   obtain ⟨X', v', hW', hg, hf⟩ := hst
   exact stp ⟨X', v', hW', hg, (hfd.mono (fun _ _ e => e.elim)).trans hf (fun _ _ e => e) (fun _ _ e => e)⟩
  ·exact (hO9d.keep hf (fun e => hn16 (.inl e))).c1
 | false =>
 try simp only [RS]
 refine bG (fun vs w' => vs = [Value.bool (decide (o.1 = 7) || decide (o.1 = 8))] ∧ w' = w9) ?_ ?_
 rotate_left
 ·intro kk hkk
  cases q7 : decide (o.1 = 7) with
  | true =>
   try simp only [RS]
   exact hkk _ _ ⟨by rw [q7]; rfl, rfl⟩
  | false =>
   try simp only [RS]
   exact hkk _ _ ⟨by rw [q7]; rfl, rfl⟩
 rintro _ wz ⟨rfl, hwz⟩ _
 subst hwz
 refine ⟨_, rfl, ?_⟩
 cases q78 : decide (o.1 = 7) || decide (o.1 = 8) with
 | false =>
  try simp only [RS]
  exact stp (WStep.refl hW9 (Fm.refl _ _))
 | true =>
 try simp only [RS]
 refine (dX hW9.hR).mono ?_
 rintro _ wz ⟨rfl, hwz⟩
 subst hwz
 refine bG (fun vs w' => ∃ a : Int, vs = [iv a] ∧ a ≤ 9223372036854775807 ∧ w' = wz) ?_ ?_
 rotate_left
 ·intro kk hkk
  have hst := hW9.hL.wf.st
  have hlow := hW9.hL.wf.low
  cases q8 : decide (o.1 = 8) with
  | true =>
   simp only [RS, hO9.c0, aA, q8]
   exact hkk _ _ ⟨n, rfl, hn.2, rfl⟩
  | false =>
   simp only [RS, hO9.c0, aA, q8]
   exact hkk _ _ ⟨_, rfl, by omega, rfl⟩
 rintro _ wy ⟨a, rfl, ha, hwy⟩ _
 subst hwy
 refine ⟨_, rfl, ?_⟩
 have hh := oE (frm := frm) (a := a) (J := jj) (k := fun r w' => r = .bool true ∧ Fm (fun _ => False) w w') hW9 hO9 hx5_9 hn5 hn16 ha hhow (fun w' hf => ⟨rfl, hf⟩) (fun w' X' lb' lr' v' L' d' h1 h2 h3 => hjj _ _ ⟨X', lb', lr', v', L', d', rfl, h1, h2, h3⟩)
 simp only [RS] at hh
 try simp only [RS]
 exact hh
end Go.Proofs.YthbngnlmgplijaaGreatDoor
namespace Go.Al
open Go.ChangeShapes Go.WideShapes Go.ChangeAt Go.RowKit
open Go.Proofs.YthbngnlmgplijaaGreatDoor.Rows (uptoBulk uptoBulkAll uptoBulkEntries uptoBulkEntry uptoSmall)
theorem witness_u {H : Type} {enc : TypeId × Value → H} {C : Checked} {os : Os} {f : FuncId} {fn : Func} {s : OpenSpec} {k : (H : Type) → List (DataW H) → Bool} (hk : s.cond = some k) {conds : List PathCond} {apart : Bool} {X : World → Array Value → Prop} (modest : Bool) (w0 : World) (args : Array Value) (fuel : Nat) (hos : w0.os = os)
  (hsh : (w0.forCall (fun _ _ => 0) ⟨#[], args, []⟩).Shaped C.prog)
  (hok : Input.okWideB C.prog (w0.forCall (fun _ _ => 0) ⟨#[], args, []⟩) f ⟨#[], args, []⟩ = true)
  {x : List (DataW H) × List (DataW H) × List MemPlace} (hx : DataW.whole enc C.prog (w0.forCall (fun _ _ => 0) ⟨#[], args, []⟩).memory fn.params.toList s.vars apart args.toList fuel = some x)
  (hconds : conds.all (PathCond.test C.prog ⟨fn.params.toList, x.1, s.bare.plain.varTypes C.prog, x.2.1⟩) = true) (hkk : k H (x.1 ++ x.2.1) = true)
  (hsz : s.bare.sizedB enc C.prog fn apart (w0.forCall (fun _ _ => 0) ⟨#[], args, []⟩).memory args fuel = true)
  (hX : X (w0.forCall (fun _ _ => 0) ⟨#[], args, []⟩).memory args) :
  ∃ (w : World) (tape : Tape) (i : Input), w.os = os ∧ (w.forCall tape i).Shaped C.prog ∧ i.vars = [] ∧ Input.okWide C.prog (w.forCall tape i) .any w.heap.size f i ∧
   ((s.pre enc C.prog fn conds apart (w.forCall tape i).memory i.args ∧ X (w.forCall tape i).memory i.args) ∧ sizedMet enc C.prog fn s apart (w.forCall tape i).memory i.args) ∧ ({ modest := modest } : Assume).holds C.prog (lone (Frame.enter C.prog f i.args .normal) [] (w.forCall tape i)) :=
 ⟨w0, fun _ _ => 0, ⟨#[], args, []⟩, hos, hsh, (Input.okWide_of_okWideB (base := 0) hok).1, (Input.okWide_of_okWideB hok).2,
  ⟨⟨(OpenSpec.pre_some hk conds apart _ _).2 ⟨x.1, x.2.1, x.2.2, DataW.Whole_of_whole hx, hconds, hkk⟩, hX⟩, sizedMet_of_sizedB hsz⟩, by
  simp only [Assume.holds]
  exact ⟨by simp, by simp, fun _ => Modest.zero, by simp, by simp⟩⟩
theorem law_laid_upto {H : Type} {enc : TypeId × Value → H} {C : Checked} {os : Os} {f : FuncId} {fn : Func} {s : OpenSpec} {k : (H : Type) → List (DataW H) → Bool} {F : Stop.Interp} {conds : List PathCond} {tb : TypeId} {X : World → Array Value → Prop} (hk : s.cond = some k) (own : ownKnob C.prog.godebug = none) (started : os.Started) (noInit : C.prog.inits.idxOf? f = none) (hfn : C.prog.funcs[f]? = some fn)
  (hlaid : laidOutB C.prog = true)
  (witness : ∃ (w : World) (tape : Tape) (i : Input), w.os = os ∧ (w.forCall tape i).Shaped C.prog ∧ i.vars = [] ∧ Input.okWide C.prog (w.forCall tape i) .any w.heap.size f i ∧
   ((s.pre enc C.prog fn conds false (w.forCall tape i).memory i.args ∧ X (w.forCall tape i).memory i.args) ∧ sizedMet enc C.prog fn s false (w.forCall tape i).memory i.args) ∧ ({} : Assume).holds C.prog (lone (Frame.enter C.prog f i.args .normal) [] (w.forCall tape i)))
  (hres : fn.resultTypes = #[tb]) (hbool : C.prog.underlying tb = some .bool) (hvars : s.vars = [])
  (hrow : ∀ t ∈ fn.params.toList, C.prog.readableRec t = true ∧ t < C.prog.types.size)
  (hs : ∀ ds : List (DataW H), ds.length = fn.params.toList.length → s.fn F H ds = { results := [.lit (.bool true)], args := ds, vars := [] })
  (law : ∀ (W : World) (args : List Value) (ds : List (DataW H)) (p : List MemPlace), LawIn enc C.prog fn.params.toList W args ds p → k H ds = true → Cl C.prog f args W fun v w' => v = .bool true ∧ Fm (fun _ => False) W w') :
  ReturnsInHanded {} C os f .any (fun w args => (s.pre enc C.prog fn conds false w args ∧ X w args) ∧ sizedMet enc C.prog fn s false w args) ((s.at F).post enc C.prog fn false true false false) := by
 refine returnsInHanded_of_calls own started noInit witness ?_
 intro w tape i _ _ _ hok hpre hholds
 obtain ⟨_, _, _, fn', hfn', _, _, _, _, hval⟩ := hok
 have e : fn' = fn := Option.some.inj (hfn'.symm.trans hfn)
 subst e
 obtain ⟨ds, gs, before, hW0, hcnd, hkk⟩ := (OpenSpec.pre_some hk conds false _ _).1 hpre.1.1
 have hW := DataW.Whole.of_heap (w' := w.forCall tape i) (by rfl) hW0
 have hsz := hpre.2.weights hW0
 have main : Calls C.prog f i.args (w.forCall tape i) fun e W' => ∃ v, e = .returned v ∧ (s.at F).post enc C.prog fn' false true false false (w.forCall tape i) i.args v W' := by
  generalize w.forCall tape i = W at hW hval
  have hW' := hW
  obtain ⟨p, q, hA, hV, rfl, hfz, hnd⟩ := hW
  rw [hvars] at hV
  obtain ⟨rfl, rfl⟩ := trodVars_none hV
  have hty : s.bare.plain.varTypes C.prog = [] := by simp [DataSpec.varTypes, ChangeSpec.plain, OpenSpec.bare, hvars]
  simp only [hty, List.append_nil] at hsz
  rw [List.append_nil] at hkk
  have hlt : ∀ x ∈ p, x.block < W.heap.size := fun x hx => hW'.lt x (by simp [hx])
  have hlen := (trodAll_length hA).2
  refine (cl_true (law W i.args.toList ds p ⟨hA, ⟨w.heap.size, fun j t v hj hv => hval j t v (by simpa using hj) (by simpa using hv)⟩, hsz, hlt⟩ hkk)).mono fun e W' ⟨he, hb⟩ => ?_
  subst he
  refine ⟨_, rfl, ds, [], p ++ [], [], p, [], hW', ?_, ?_, ?_, hb.frame _, fun h => by cases h⟩
  ·show DataW.TrodAll _ _ _ _ _ _ _ _ (s.fn F H (ds ++ [])).results _
   rw [List.append_nil, hs ds hlen, hres]
   exact trodAll_cons_mk (shut_bool hbool _) trodAll_mk0
  ·show DataW.TrodAll _ _ _ _ _ _ _ _ (s.fn F H (ds ++ [])).args _
   rw [List.append_nil, hs ds hlen]
   exact trodAll_below hlaid hb hrow hA hlt
  ·show DataW.TrodVars _ _ _ _ s.vars (s.fn F H (ds ++ [])).vars _
   rw [List.append_nil, hs ds hlen, hvars]; trivial
 refine main.mono fun e W' ⟨v, he, hp⟩ => ?_
 subst he
 exact ChangeSpec.post_blind hp
end Go.Al
