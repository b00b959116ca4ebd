/- Laid for one claim by slim.py out of: PoolMem PoolOps PoolOps2 PoolNew PoolSys PoolAw PoolPick PoolLast PoolKeep SortI Disk3 PoolOwe AlCard. -/
import Derived.Test.YthbngnlmgplijaaGreatDoorOweD
namespace Go.Proofs.YthbngnlmgplijaaGreatDoor
open Go.Al Go.Proofs
set_option linter.unusedVariables false
set_option linter.unusedSimpArgs false
set_option linter.unusedSectionVars false
set_option maxRecDepth 100000

/-! ### Rows of structures, changed in place -/
theorem flat_split {α : Type} {f : α → List Value} {n : Nat} (hf : ∀ x, (f x).length = n) : ∀ (F : List α) (i : Nat) (x : α), i < F.length → (F.set i x).flatMap f = (F.flatMap f).take (i * n) ++ (f x ++ (F.flatMap f).drop (i * n + n))
  | [], i, x, h => by simp at h
  | y :: F, 0, x, h => by
    rw [List.set_cons_zero, List.flatMap_cons, List.flatMap_cons, Nat.zero_mul, List.take_zero, List.nil_append, Nat.zero_add]
    congr 1
    rw [List.drop_left' (hf y)]
  | y :: F, i + 1, x, h => by
    rw [List.set_cons_succ, List.flatMap_cons, List.flatMap_cons, flat_split hf F i x (by simpa using h)]
    rw [show (i + 1) * n = (f y).length + i * n from by rw [hf, Nat.add_mul, Nat.one_mul, Nat.add_comm], List.take_length_add_append, Nat.add_assoc, List.drop_length_add_append, List.append_assoc]
theorem ov_eq : ∀ (l : List Value) (cs : Array Value) (o : Nat), o + l.length ≤ cs.size → ov cs o l = (cs.toList.take o ++ (l ++ cs.toList.drop (o + l.length))).toArray
  | [], cs, o, h => by simp [ov]
  | v :: l, cs, o, h => by
    rw [List.length_cons] at h
    rw [ov, ov_eq l (cs.setIfInBounds o v) (o + 1) (by rw [Array.size_setIfInBounds]; omega)]
    have ho : o < cs.toList.length := by rw [Array.length_toList]; omega
    rw [Array.toList_setIfInBounds, List.length_cons, List.set_eq_take_append_cons_drop, if_pos ho]
    have e1 : cs.toList.take o ++ v :: cs.toList.drop (o + 1) = (cs.toList.take o ++ [v]) ++ cs.toList.drop (o + 1) := by simp
    have e2 : (cs.toList.take o ++ [v]).length = o + 1 := by rw [List.length_append, List.length_take, Nat.min_eq_left (by omega)]; rfl
    rw [e1, List.take_left' e2, ← List.drop_drop, List.drop_left' e2, List.drop_drop]
    simp [Nat.add_assoc, Nat.add_comm 1]
theorem flat_set1 {α : Type} {f : α → List Value} {n : Nat} (hf : ∀ x, (f x).length = n) : ∀ {F : List α} {i : Nat} {x y : α} {j : Nat} {u : Value}, F[i]? = some x → j < n → f y = (f x).set j u → (F.set i y).flatMap f = (F.flatMap f).set (i * n + j) u
  | [], i, x, y, j, u, h, _, _ => by simp at h
  | z :: F, 0, x, y, j, u, h, hj, he => by
    obtain rfl : z = x := by simpa using h
    rw [List.set_cons_zero, List.flatMap_cons, List.flatMap_cons, Nat.zero_mul, Nat.zero_add, he, List.set_append_left _ _ (by rw [hf]; exact hj)]
  | z :: F, i + 1, x, y, j, u, h, hj, he => by
    rw [List.set_cons_succ, List.flatMap_cons, List.flatMap_cons, flat_set1 hf (by simpa using h) hj he, List.set_append_right _ _ (by rw [hf, Nat.add_mul]; omega)]
    congr 2
    rw [hf, Nat.add_mul]; omega

/-! ### A frame -/
abbrev PV := Pf × Value
def frC (x : PV) : List Value := [iv x.1.pg.lsn, iv x.1.pg.kind, iv x.1.pg.level, iv x.1.pg.right, stv x.1.pg.high, x.2, iv x.1.num, .bool x.1.chg]
theorem frC_len (x : PV) : (frC x).length = 8 := rfl
def HeldP (w : World) (P : Nat → Prop) (v : Value) (p : Pg) : Prop := ∀ w', Fm (fun y => ¬ P y) w w' → PgAs w' (pcs p v) p
theorem HeldP.now {w : World} {P : Nat → Prop} {v : Value} {p : Pg} (h : HeldP w P v p) : PgAs w (pcs p v) p := h w (Fm.refl _ _)
theorem HeldP.keep {S P : Nat → Prop} {w w1 : World} {v : Value} {p : Pg} (h : HeldP w P v p) (hf : Fm S w w1) (hs : ∀ y, P y → ¬ S y) : HeldP w1 P v p := fun w' h' => h w' (hf.trans h' (fun x _ hx hp => hs x hp hx) (fun _ _ e => e))
theorem HeldP.mono {P Q : Nat → Prop} {w : World} {v : Value} {p : Pg} (h : HeldP w P v p) (hPQ : ∀ y, P y → Q y) : HeldP w Q v p := fun w' h' => h w' (h'.mono (fun x _ hx hp => hx (hPQ x hp)))
theorem HeldP.of_own {w : World} {b : Nat} {v : Value} {p : Pg} {P : Nat → Prop} (h : PgOw w b (pcs p v) p) (hP : ∀ y, v.ownBlock = some y → P y) : HeldP w P v p := by
  obtain ⟨u, he, h2⟩ := h.ex
  have e : (pcs p v).toList = (pcs p u).toList := by rw [he]
  simp only [pcs, List.cons.injEq, true_and, and_true] at e
  subst e
  intro w' hf
  have h3 := own_keep h2 hf (fun k _ _ hk hn => hn (hP k hk))
  exact ⟨⟨v, rfl, own_one h3, CellsAt.of_own h3⟩, h.small, h.ins⟩
theorem HeldP.zero (w : World) (P : Nat → Prop) : HeldP w P (.slice none 0 0) pg0 := fun w' _ => pgAs0 w'

/-! ### A pool -/
structure Pl.Wf (p : Pl) : Prop where
  f1 : 1 ≤ p.fr.length ∧ p.fr.length ≤ 1024
  pg : 1 ≤ p.pages ∧ p.frm + 8 * p.pages ≤ 65536
  nums : ∀ f ∈ p.fr, f.num = -1 ∨ (0 ≤ f.num ∧ f.num < (p.pages : Int))
theorem Pl.Wf.lay {p : Pl} (h : p.Wf) {i : Nat} {f : Pf} (hf : f.num = -1 ∨ (0 ≤ f.num ∧ f.num < (p.pages : Int))) : (p.lay i f).Wf := by
  refine ⟨by rw [Pl.lay_len]; exact h.f1, h.pg, fun g hg => ?_⟩
  rcases List.mem_or_eq_of_mem_set hg with hg | rfl
  · exact h.nums g hg
  · exact hf
theorem Pl.Wf.of_fr {p q : Pl} (h : p.Wf) (e1 : q.fr = p.fr) (e2 : q.pages = p.pages) (e3 : q.frm = p.frm) : q.Wf := ⟨by rw [e1]; exact h.f1, by rw [e2, e3]; exact h.pg, by rw [e1, e2]; exact h.nums⟩
theorem K146 : KeyT Tryz.prog 146 3 3 iv := keyT_int Tryz.underlying146 Tryz.underlying3
def plc (db lb fb ob n : Nat) (p : Pl) : Array Value := #[pv db, pv lb, iv (p.frm : Int), iv (p.pages : Int), .slice (some ⟨fb, 0, none⟩) n n, .map (some ob)]
structure PIn (w : World) (X Q : Nat → Prop) (pb lb db fb ob : Nat) (F : List PV) (p : Pl) : Prop where
  st : w.heap[pb]? = some (.cells (plc db lb fb ob F.length p) 148)
  fr : w.heap[fb]? = some (.cells (F.flatMap frC).toArray 143)
  mp : MapAt w ob iv iv p.owed
  fs : F.map (·.1) = p.fr
  it : ∀ x ∈ F, HeldP w Q x.2 x.1.pg
  xs : X pb ∧ X fb ∧ X ob ∧ ∀ y, Q y → X y
  qs : ¬ Q pb ∧ ¬ Q fb ∧ ¬ Q ob
  lt : ∀ y, X y → y < w.heap.size
section
variable {w w' : World} {X Q S : Nat → Prop} {pb lb db fb ob : Nat} {F : List PV} {p : Pl}
theorem PIn.keep (h : PIn w X Q pb lb db fb ob F p) (hf : Fm S w w') (hS : ∀ y, X y → ¬ S y) : PIn w' X Q pb lb db fb ob F p :=
  ⟨hf.heap h.st (hS _ h.xs.1), hf.heap h.fr (hS _ h.xs.2.1), h.mp.keep hf (hS _ h.xs.2.2.1), h.fs, fun x hx => (h.it x hx).keep hf (fun y hy => hS y (h.xs.2.2.2 y hy)), h.xs, h.qs, fun y hy => Nat.lt_of_lt_of_le (h.lt y hy) hf.size⟩
theorem PIn.keep0 (h : PIn w X Q pb lb db fb ob F p) (hf : Fm (fun _ => False) w w') : PIn w' X Q pb lb db fb ob F p := h.keep hf (fun _ _ e => e)
theorem PIn.len (h : PIn w X Q pb lb db fb ob F p) : F.length = p.fr.length := by rw [← h.fs, List.length_map]
theorem PIn.pf (h : PIn w X Q pb lb db fb ob F p) : pb ≠ fb := by
  rintro rfl
  have := h.st
  rw [h.fr] at this
  injection (Option.some.inj this) with _ e _
  exact absurd e (by decide)
theorem PIn.po (h : PIn w X Q pb lb db fb ob F p) : pb ≠ ob := by
  rintro rfl
  obtain ⟨es, c, hb, _⟩ := h.mp.ex
  rw [h.st] at hb; cases hb
theorem PIn.fo (h : PIn w X Q pb lb db fb ob F p) : fb ≠ ob := by
  rintro rfl
  obtain ⟨es, c, hb, _⟩ := h.mp.ex
  rw [h.fr] at hb; cases hb
theorem PIn.c0 (h : PIn w X Q pb lb db fb ob F p) : w.cell? ⟨pb, 0, none⟩ = some (pv db) := by rw [cell_at h.st]; rfl
theorem PIn.c1 (h : PIn w X Q pb lb db fb ob F p) : w.cell? ⟨pb, 1, none⟩ = some (pv lb) := by rw [cell_at h.st]; rfl
theorem PIn.c2 (h : PIn w X Q pb lb db fb ob F p) : w.cell? ⟨pb, 2, none⟩ = some (iv (p.frm : Int)) := by rw [cell_at h.st]; rfl
theorem PIn.c3 (h : PIn w X Q pb lb db fb ob F p) : w.cell? ⟨pb, 3, none⟩ = some (iv (p.pages : Int)) := by rw [cell_at h.st]; rfl
theorem PIn.c4 (h : PIn w X Q pb lb db fb ob F p) : w.cell? ⟨pb, 4, none⟩ = some (.slice (some ⟨fb, 0, none⟩) F.length F.length) := by rw [cell_at h.st]; rfl
theorem PIn.c5 (h : PIn w X Q pb lb db fb ob F p) : w.cell? ⟨pb, 5, none⟩ = some (.map (some ob)) := by rw [cell_at h.st]; rfl
theorem PIn.fc (h : PIn w X Q pb lb db fb ob F p) {i : Nat} {x : PV} (hi : F[i]? = some x) {j : Nat} (hj : j < 8) : w.cell? ⟨fb, i * 8 + j, none⟩ = (frC x)[j]? := by
  rw [cell_at h.fr, List.getElem?_toArray, flat_get frC_len hi hj]
theorem PIn.f0 (h : PIn w X Q pb lb db fb ob F p) {i : Nat} {x : PV} (hi : F[i]? = some x) : w.cell? ⟨fb, i * 8, none⟩ = some (iv x.1.pg.lsn) := h.fc hi (j := 0) (by omega)
theorem PIn.f6 (h : PIn w X Q pb lb db fb ob F p) {i : Nat} {x : PV} (hi : F[i]? = some x) : w.cell? ⟨fb, i * 8 + 6, none⟩ = some (iv x.1.num) := h.fc hi (by omega)
theorem PIn.f7 (h : PIn w X Q pb lb db fb ob F p) {i : Nat} {x : PV} (hi : F[i]? = some x) : w.cell? ⟨fb, i * 8 + 7, none⟩ = some (.bool x.1.chg) := h.fc hi (by omega)
theorem PIn.pg6 (h : PIn w X Q pb lb db fb ob F p) {i : Nat} {x : PV} (hi : F[i]? = some x) : cellsV w ⟨fb, i * 8, none⟩ 6 = some (.agg (pcs x.1.pg x.2)) := by
  refine cellsV_of (l := (frC x).take 6) rfl (fun j hj => ?_)
  rw [add_none, h.fc hi (by omega), List.getElem?_take, if_pos hj]
theorem PIn.ix (i : Nat) {n : Nat} (hi : i < n) (fb : Nat) : ixV 8 (.slice (some ⟨fb, 0, none⟩) n n) (iv (i : Int)) = some (.pointer (some ⟨fb, i * 8, none⟩)) := by
  rw [ixV_at hi, add_none, Nat.zero_add]
theorem PIn.frg (h : PIn w X Q pb lb db fb ob F p) {i : Nat} {x : PV} (hi : F[i]? = some x) : p.fr[i]? = some x.1 ∧ p.get i = x.1 := by
  have : p.fr[i]? = some x.1 := by rw [← h.fs, List.getElem?_map, hi]; rfl
  exact ⟨this, Pl.get_of this⟩
/-- A frame is laid anew. -/
theorem PIn.put (h : PIn w X Q pb lb db fb ob F p) {Q' : Nat → Prop} {i : Nat} {x : PV} (hf : Fm S w w') (hS : ∀ y, S y → y = fb ∨ ¬ X y) (hfr : w'.heap[fb]? = some (.cells ((F.set i x).flatMap frC).toArray 143)) (hx : HeldP w' Q' x.2 x.1.pg)
    (hQ : ∀ y, Q y → Q' y) (hQ' : ∀ y, Q' y → Q y ∨ (¬ X y ∧ y < w'.heap.size)) : PIn w' (fun y => X y ∨ Q' y) Q' pb lb db fb ob (F.set i x) (p.lay i x.1) := by
  have hno : ∀ y, X y → y ≠ fb → ¬ S y := fun y hy hn hs => by
    rcases hS y hs with e | e
    · exact hn e
    · exact e hy
  have hq : ∀ y, X y → ¬ Q y → ¬ Q' y := fun y hy hn e => by
    rcases hQ' _ e with e | e
    · exact hn e
    · exact e.1 hy
  refine ⟨?_, hfr, h.mp.keep hf (hno _ h.xs.2.2.1 h.fo.symm), ?_, ?_, ⟨.inl h.xs.1, .inl h.xs.2.1, .inl h.xs.2.2.1, fun y hy => .inr hy⟩, ⟨hq _ h.xs.1 h.qs.1, hq _ h.xs.2.1 h.qs.2.1, hq _ h.xs.2.2.1 h.qs.2.2⟩, ?_⟩
  · rw [List.length_set]
    exact hf.heap h.st (hno _ h.xs.1 h.pf)
  · show (F.set i x).map (·.1) = p.fr.set i x.1
    rw [← h.fs, List.map_set]
  · intro y hy
    rcases List.mem_or_eq_of_mem_set hy with hy | rfl
    · exact ((h.it y hy).keep hf (fun z hz => hno z (h.xs.2.2.2 z hz) (by rintro rfl; exact h.qs.2.1 hz))).mono hQ
    · exact hx
  · intro y hy
    have hz := hf.size
    rcases hy with hy | hy
    · have := h.lt y hy; omega
    · rcases hQ' y hy with e | e
      · have := h.lt y (h.xs.2.2.2 y e); omega
      · exact e.2

/-! ### What its small functions tell -/
theorem pknown_spec (h : PIn w X Q pb lb db fb ob F p) (n : Int) : Cl Tryz.prog 102 [pv pb, iv n] w fun v w' => v = iv (p.known n) ∧ w' = w := by
  refine c102 ?_; unfold T102
  unfold Pl.known
  cases h1 : decide (n < 0) with
  | true =>
    simp only [RS0, RS1, RS2, RS3, RS4, RS5, h1, Bool.true_or, cond_true]
    exact ⟨(by trivial), (by trivial)⟩
  | false =>
    simp only [RS0, RS1, RS2, RS3, RS4, RS5, h1, h.c3, Bool.false_or]
    cases h2 : decide ((p.pages : Int) ≤ n) with
    | true =>
      simp only [RS0, RS1, RS2, RS3, RS4, RS5, cond_true]
      exact ⟨(by trivial), (by trivial)⟩
    | false =>
      simp only [RS0, RS1, RS2, RS3, RS4, RS5, cond_false]
      exact ⟨(by trivial), (by trivial)⟩
def holdV (fb : Nat) : Option Nat → Value
  | some i => .pointer (some ⟨fb, i * 8, none⟩)
  | none => .pointer none
theorem pholds_spec (h : PIn w X Q pb lb db fb ob F p) (hw : F.length ≤ 1024) (n : Int) : Cl Tryz.prog 104 [pv pb, iv n] w fun v w' => v = holdV fb (p.hold n) ∧ w' = w := by
  have hlen := h.len
  refine c104 ?_; unfold T104
  simp only [RS0, RS1, RS2, RS3, RS4, RS5, h.c4]
  refine ⟨fun vs w' => ∃ i : Nat, vs = [iv (i : Int)] ∧ i ≤ F.length ∧ (∀ (j : Nat) (f : Pf), j < i → p.fr[j]? = some f → f.num ≠ n) ∧ w' = w, fun vs _ => (F.length - nth vs 0).toNat, ⟨0, rfl, by omega, (fun j f hj => by omega), rfl⟩, ?_⟩
  rintro _ w2 ivv ⟨i, hvs, hi, hno, rfl⟩
  cases hvs
  by_cases hl : i < F.length
  · have d1 : decide ((i : Int) < (F.length : Int)) = true := by rw [decide_eq_true_eq]; omega
    have e1 : IntKind.i64.wrap ((i : Int) + 1) = ((i + 1 : Nat) : Int) := by rw [wrap_id] <;> omega
    have hx : F[i]? = some F[i] := List.getElem?_eq_getElem hl
    generalize F[i] = x at hx
    obtain ⟨g1, _⟩ := h.frg hx
    simp only [RS0, RS1, RS2, RS3, RS4, RS5, d1, h.c4, PIn.ix i hl fb, h.f6 hx, beq_dec]
    cases hq : decide (x.1.num = n) with
    | true =>
      rw [decide_eq_true_eq] at hq
      simp only [RS0, RS1, RS2, RS3, RS4, RS5]
      refine ⟨?_, (by trivial)⟩
      have : p.hold n = some i := by
        unfold Pl.hold
        rw [List.findIdx?_eq_some_iff_getElem]
        have hli : i < p.fr.length := by omega
        refine ⟨hli, ?_, fun j hj => ?_⟩
        · rw [List.getElem?_eq_getElem hli] at g1
          rw [decide_eq_true_eq, Option.some.inj g1]; exact hq
        · have := hno j _ hj (List.getElem?_eq_getElem (by omega))
          simpa using this
      rw [this]; rfl
    | false =>
      rw [decide_eq_false_iff_not] at hq
      simp only [RS0, RS1, RS2, RS3, RS4, RS5, e1]
      refine ⟨⟨i + 1, rfl, by omega, fun j f hj hf => ?_, (by trivial)⟩, by simp only [nth_0]; omega⟩
      by_cases hji : j = i
      · subst hji
        rw [g1] at hf; cases hf; exact hq
      · exact hno j f (by omega) hf
  · have d1 : decide ((i : Int) < (F.length : Int)) = false := by rw [decide_eq_false_iff_not]; omega
    simp only [RS0, RS1, RS2, RS3, RS4, RS5, d1]
    refine ⟨?_, (by trivial)⟩
    have : p.hold n = none := by
      unfold Pl.hold
      rw [List.findIdx?_eq_none_iff]
      intro f hf
      obtain ⟨j, hj⟩ := List.getElem?_of_mem hf
      have hjl := (List.getElem?_eq_some_iff.1 hj).1
      simpa using hno j f (by omega) hj
    rw [this]; rfl
theorem powes_spec (h : PIn w X Q pb lb db fb ob F p) (n : Int) : Cl Tryz.prog 43 [pv pb, iv n] w fun v w' => v = .bool (!(getD p.owed n).isNone) ∧ w' = w := by
  refine c43 ?_; unfold T43
  simp only [RS0, RS1, RS2, RS3, RS4, RS5, h.c5]
  have hl := lookup_run K146 h.mp n true (z := iv 0) (by kernel_rfl)
  refine RunS_ok hl ?_
  cases getD p.owed n with
  | none =>
    simp only [okV, cond_true]
    simp only [RS0, RS1, RS2, RS3, RS4, RS5]
    exact ⟨(by trivial), (by trivial)⟩
  | some v =>
    simp only [okV, cond_true]
    simp only [RS0, RS1, RS2, RS3, RS4, RS5]
    exact ⟨(by trivial), (by trivial)⟩
/-! ### A copy of a frame's page -/
theorem retP1 {w : World} {g : Nat} {cs : Array Value} (h : w.heap[g]? = some (.cells cs 61)) (hn : cs.size = 6) {k : KV} (hk : k (.agg cs) w) :
    RetO (resL Tryz.prog (fun j => bif Nat.beq j 2 then pv g else undef) w [(ResultVar.cell 2 61)]) w k := by
  simp only [resL, resV_blk (f := fun j => bif Nat.beq j 2 then pv g else undef) (a := 2) rfl agg24 size24 h hn, RetO, RetV]
  exact hk
theorem pg0_cells : (#[(Value.int IntKind.i64 0), (Value.int IntKind.i64 0), (Value.int IntKind.i64 0), (Value.int IntKind.i64 0), (Value.string (ByteArray.mk #[])), (Value.slice none 0 0)] : Array Value) = pcs pg0 (.slice none 0 0) := rfl
theorem pcs_one {p : Pg} {v : Value} (h : v.oneCell' = true) : ∀ u ∈ (pcs p v).toList, u.oneCell' = true := by
  intro u hu
  simp [pcs] at hu
  rcases hu with rfl | rfl | rfl | rfl | rfl | rfl <;> first | rfl | assumption
theorem pcs_set5 (p : Pg) (v u : Value) : (pcs p v).setIfInBounds 5 u = pcs p u := rfl
theorem HeldP.v1 {P : Nat → Prop} {v : Value} {q : Pg} (h : HeldP w P v q) : v.oneCell' = true ∧ CellsAt w v q.items.length 1 (q.items.map stv) ∧ q.items.length * 16 ≤ 140737488355328 := by
  obtain ⟨u, he, h1, h2⟩ := h.now.ex
  have e : (pcs q v).toList = (pcs q u).toList := by rw [he]
  simp only [pcs, List.cons.injEq, true_and, and_true] at e
  subst e
  exact ⟨h1, h2, h.now.ins.2.2.2.2.2⟩
theorem pfresh_spec (h : PIn w X Q pb lb db fb ob F p) {i : Nat} {x : PV} (hi : F[i]? = some x) : Cl Tryz.prog 107 [.pointer (some ⟨fb, i * 8, none⟩)] w fun v w' => ∃ cs, v = .agg cs ∧ PgOw w' w.heap.size cs x.1.pg ∧ Fm (fun _ => False) w w' := by
  have hit := h.it x (List.mem_of_getElem? hi)
  obtain ⟨v1, v2, v3⟩ := hit.v1
  refine c107 ?_; unfold T107
  rw [pg0_cells]
  refine New_any ?_
  intro x1 w1 hx1 hs1 hw1 hf1
  simp only [RS0, RS1, RS2, RS3, RS4, RS5, (h.keep0 hf1).pg6 hi]
  refine New_any ?_
  intro x2 w2 hx2 hs2 hw2 hf2
  refine St_all hw2 rfl rfl (pcs_one v1) ?_
  intro w3 hw3 hs3 hf3
  have c5 : w3.cell? ⟨x2, 5, none⟩ = some x.2 := by rw [cell_at hw3]; rfl
  have hF3 : Fm (fun _ => False) w w3 := Fm.own (Fmf hf1 hf2) hf3 (by rintro y rfl; omega)
  simp only [RS0, RS1, RS2, RS3, RS4, RS5, c5]
  refine (clone_spec (v2.keep hF3 (fun _ _ e => e)) v3).mono ?_
  rintro r w4 ⟨ho4, hf4⟩
  try simp only [RS0, RS1, RS2, RS3, RS4, RS5]
  have z3 := hF3.size
  refine St_blk (hf4.heap hw3 (fun e => e)) (by show 5 < 6; decide) (own_one ho4) ?_
  intro w5 hw5 hs5 hf5
  rw [pcs_set5] at hw5
  have hlt := own_lt ho4
  simp only [RS0, RS1, RS2, RS3, RS4, RS5, cellsV_blk hw5 (show (pcs x.1.pg r).size = 6 from rfl)]
  have hF4 := Fmf hF3 hf4
  have hF5 : Fm (fun _ => False) w w5 := Fm.own hF4 hf5 (by rintro y rfl; omega)
  have hw1' : w5.heap[x1]? = some (.cells (pcs pg0 (.slice none 0 0)) 61) := by
    have e3 : w3.heap[x1]? = _ := hf3.heap (hf2.heap hw1 (fun e => e)) (show ¬ x1 = x2 by omega)
    exact hf5.heap (hf4.heap e3 (fun e => e)) (show ¬ x1 = x2 by omega)
  refine St_all hw1' rfl rfl (pcs_one (own_one ho4)) ?_
  intro w6 hw6 hs6 hf6
  have z1 := hf1.size; have z2 := hf2.size; have z3' := hf3.size
  refine retP1 hw6 rfl ⟨_, rfl, ⟨⟨r, rfl, own_base (own_keep (own_keep ho4 hf5 (fun k hk _ _ e => by omega)) hf6 (fun k hk _ _ e => by omega)) z3⟩, hit.now.small, hit.now.ins⟩, Fm.own hF5 hf6 (by rintro y rfl; omega)⟩
end
end Go.Proofs.YthbngnlmgplijaaGreatDoor

namespace Go.Proofs.YthbngnlmgplijaaGreatDoor
open Go.Al Go.Proofs
set_option linter.unusedVariables false
set_option linter.unusedSimpArgs false
set_option linter.unusedSectionVars false
set_option maxRecDepth 100000

theorem filter_delD {β : Type} (M : List (Int × β)) (hn : (M.map (·.1)).Nodup) (q : Int × β → Bool) (a : Int) : delD (M.filter q) a = M.filter (fun x => q x && !decide (x.1 = a)) := by
  induction M with
  | nil => rfl
  | cons p l ih =>
    rw [List.map_cons, List.nodup_cons] at hn
    have ih := ih hn.2
    rw [List.filter_cons, List.filter_cons]
    by_cases hq : q p = true
    · rw [if_pos hq, delD]
      by_cases ha : p.1 = a
      · have hno : ∀ x ∈ l, ¬ x.1 = a := fun x hx e => hn.1 (by rw [ha, ← e]; exact List.mem_map.2 ⟨x, hx, rfl⟩)
        rw [if_pos ha, if_neg (by simp [ha])]
        exact (List.filter_congr (fun x hx => by simp [hno x hx])).symm
      · rw [if_neg ha, if_pos (by simp [hq, ha]), ih]
    · rw [if_neg hq, if_neg (by simp [hq]), ih]
section
variable {w w' : World} {X Q S : Nat → Prop} {pb lb db fb ob : Nat} {F : List PV} {p : Pl}
theorem psyncedf_spec {a : Nat} (h : PIn w X Q pb lb db fb ob F p) (hw : F.length ≤ 1024) (ha : w.heap[a]? = some (.cells #[pv pb] 54)) (n : Int) (u : Value) : Cl Tryz.prog 113 [iv n, u, pv a] w fun v w' => v = .bool (!p.stays n) ∧ w' = w := by
  have ca : w.cell? ⟨a, 0, none⟩ = some (pv pb) := by rw [cell_at ha]; rfl
  refine c113 ?_; unfold T113
  simp only [RS0, RS1, RS2, RS3, RS4, RS5, ca]
  refine (pholds_spec h hw n).mono ?_
  rintro _ w2 ⟨rfl, rfl⟩
  unfold Pl.stays
  cases hh : p.hold n with
  | none =>
    simp only [holdV]
    simp only [RS0, RS1, RS2, RS3, RS4, RS5]
    exact ⟨(by trivial), (by trivial)⟩
  | some i =>
    simp only [holdV]
    obtain ⟨f, hf, _⟩ := Pl.hold_some hh
    rw [← h.fs, List.getElem?_map, Option.map_eq_some_iff] at hf
    obtain ⟨x, hx, rfl⟩ := hf
    rw [(h.frg hx).2]
    simp only [RS0, RS1, RS2, RS3, RS4, RS5, h.f7 hx]
    exact ⟨(by trivial), (by trivial)⟩
set_option maxHeartbeats 2000000 in
theorem psynced_spec (h : PIn w X Q pb lb db fb ob F p) (hw : F.length ≤ 1024) : Cl Tryz.prog 39 [pv pb] w fun v w' => PIn w' X Q pb lb db fb ob F p.synced ∧ Fm (· = ob) w w' := by
  refine c39 ?_; unfold T39
  refine New_any ?_
  intro a w1 ha hs1 hw1 hf1
  have c1 : w1.cell? ⟨a, 0, none⟩ = some (pv pb) := by rw [cell_at hw1]; rfl
  have hi1 := h.keep0 hf1
  simp only [RS0, RS1, RS2, RS3, RS4, RS5, c1, hi1.c5]
  refine c112 ?_; unfold T112
  obtain ⟨w5, hr5, hR, hf5, hs5⟩ := range_run Tryz.underlying146 hi1.mp
  refine RunS_ok hr5 ?_
  have hi5 := hi1.keep0 hf5
  have hkn : (p.owed.map (·.1)).Nodup := h.mp.keys
  have hz1 := hf1.size
  refine ⟨fun vs w' => ∃ (q : Int × Int → Bool) (left : List (Int × Int)), vs = [] ∧ RangeAt w' w1.heap.size ob iv iv (p.owed.filter q) left ∧ (left.map (·.1)).Nodup ∧ (∀ x ∈ p.owed, q x = true ↔ (p.stays x.1 = true ∨ x.1 ∈ left.map (·.1))) ∧ Fm (fun y => y = ob ∨ y = w1.heap.size) w5 w', fun _ w' => Go.Al.rl w' w1.heap.size ob, ⟨fun _ => true, p.owed, rfl, by rw [List.filter_eq_self.2 (fun _ _ => rfl)]; exact hR, hkn, fun x hx => ⟨fun _ => .inr (List.mem_map.2 ⟨x, hx, rfl⟩), fun _ => rfl⟩, Fm.refl _ _⟩, ?_⟩
  rintro g w6 ⟨q, left, -, hR6, hln, hq, hf6⟩
  have hnm5 : ∀ y, X y → ¬ y = w1.heap.size := by
    rintro y hy rfl
    have := hi1.lt _ hy
    omega
  have hat : ∀ {w7 : World} {D : List (Int × Int)}, Fm (fun y => y = ob ∨ y = w1.heap.size) w5 w7 → MapAt w7 ob iv iv D → PIn w7 X Q pb lb db fb ob F { p with owed := D } := by
    intro w7 D hf7 hm7
    have hn : ∀ y, X y → y ≠ ob → ¬ (y = ob ∨ y = w1.heap.size) := fun y hy hne e => by
      rcases e with e | e
      · exact hne e
      · exact hnm5 y hy e
    exact ⟨hf7.heap hi5.st (hn _ h.xs.1 h.po), hf7.heap hi5.fr (hn _ h.xs.2.1 h.fo), hm7, h.fs, fun x hx => (hi5.it x hx).keep hf7 (fun y hy => hn y (h.xs.2.2.2 y hy) (by rintro rfl; exact h.qs.2.2 hy)), h.xs, h.qs, fun y hy => Nat.lt_of_lt_of_le (hi5.lt y hy) hf7.size⟩
  have ha7 : ∀ {w7 : World}, Fm (fun y => y = ob ∨ y = w1.heap.size) w5 w7 → w7.heap[a]? = some (.cells #[pv pb] 54) := fun hf7 => hf7.heap (hf5.heap hw1 (fun e => e)) (by
    rintro (e | e)
    · have := h.lt _ h.xs.2.2.1; omega
    · omega)
  have hfn : ((p.owed.filter q).map (·.1)).Nodup := hkn.sublist (List.Sublist.map _ List.filter_sublist)
  rcases next_run (P := Tryz.prog) hR6 0 with ⟨rfl, hrun⟩ | ⟨i, y, w7, hp, hrun, hR', hf', hs', hent⟩
  · refine RunS_ok hrun ?_
    simp only [RS0, RS1, RS2, RS3, RS4, RS5]
    have hFq : p.owed.filter q = p.owed.filter (fun x => p.stays x.1) := List.filter_congr (fun x hx => by
      have := hq x hx
      simp at this
      cases h1 : q x <;> cases h2 : p.stays x.1 <;> simp [h1, h2] at this ⊢)
    have hm6 := hR6.map hfn
    rw [hFq] at hm6
    refine ⟨hat hf6 hm6, ?_⟩
    exact (Fmf hf1 hf5).trans hf6 (fun _ _ e => e.elim) (fun x hx e => by
      rcases e with e | e
      · exact e
      · omega)
  · refine RunS_ok hrun ?_
    simp only [RS0, RS1, RS2, RS3, RS4, RS5]
    refine RunS_ok hent ?_
    have hlen : Go.Al.rl w7 w1.heap.size ob < Go.Al.rl w6 w1.heap.size ob := by
      rw [hR6.len, hR'.len]; have := len_erase hp; omega
    have hln' : ((left.eraseIdx i).map (·.1)).Nodup := by rw [← eraseIdx_mp]; exact nodup_erase hln i
    have hf7 : Fm (fun y => y = ob ∨ y = w1.heap.size) w5 w7 := hf6.trans (hf'.mono (fun y _ e => .inr e)) (fun _ _ e => e) (fun _ _ e => e)
    have hmem : ∀ k, k ∈ left.map (·.1) ↔ k = y.1 ∨ k ∈ (left.eraseIdx i).map (·.1) := by
      intro k
      constructor
      · intro hk
        obtain ⟨x, hx, rfl⟩ := List.mem_map.1 hk
        rcases mem_erase_or hp hx with rfl | hx
        · exact .inl rfl
        · exact .inr (List.mem_map.2 ⟨x, hx, rfl⟩)
      · rintro (rfl | hk)
        · exact List.mem_map.2 ⟨y, List.mem_of_getElem? hp, rfl⟩
        · obtain ⟨x, hx, rfl⟩ := List.mem_map.1 hk
          exact List.mem_map.2 ⟨x, List.mem_of_mem_eraseIdx hx, rfl⟩
    have hnot : y.1 ∉ (left.eraseIdx i).map (·.1) := by
      intro hk
      obtain ⟨j, hj⟩ := List.getElem?_of_mem hk
      rw [← eraseIdx_mp, List.getElem?_eraseIdx] at hj
      have hpi : (left.map (·.1))[i]? = some y.1 := by rw [List.getElem?_map, hp]; rfl
      split at hj
      · have := (List.getElem?_inj (List.getElem?_eq_some_iff.1 hj).1 hln).1 (hj.trans hpi.symm)
        omega
      · have := (List.getElem?_inj (List.getElem?_eq_some_iff.1 hj).1 hln).1 (hj.trans hpi.symm)
        omega
    simp only [RS0, RS1, RS2, RS3, RS4, RS5]
    refine ClV_func (by kernel_rfl) ?_
    have hi7 := hat hf7 (hR'.map hfn)
    refine (psyncedf_spec hi7 hw (ha7 hf7) y.1 (iv y.2)).mono ?_
    rintro _ w8 ⟨rfl, rfl⟩
    have hst : ({ p with owed := p.owed.filter q } : Pl).stays y.1 = p.stays y.1 := rfl
    rw [hst]
    cases q3 : p.stays y.1 with
    | true =>
      simp only [RS0, RS1, RS2, RS3, RS4, RS5]
      refine ⟨⟨q, _, (by trivial), hR', hln', fun x hx => ?_, hf7⟩, hlen⟩
      rw [hq x hx, hmem]
      constructor
      · rintro (h1 | h1 | h1)
        · exact .inl h1
        · exact .inl (by rw [h1]; exact q3)
        · exact .inr h1
      · rintro (h1 | h1)
        · exact .inl h1
        · exact .inr (.inr h1)
    | false =>
      simp only [RS0, RS1, RS2, RS3, RS4, RS5]
      obtain ⟨w9, hr9, hR9, hf9, hs9⟩ := range_delete K146 hR' hfn y.1 hnot 0 3
      refine RunS_ok hr9 ?_
      rw [filter_delD p.owed hkn q y.1] at hR9
      refine ⟨⟨_, _, (by trivial), hR9, hln', fun x hx => ?_, hf7.trans (hf9.mono (fun y _ e => .inl e)) (fun _ _ e => e) (fun _ _ e => e)⟩, by rw [hR9.len, ← hR'.len]; exact hlen⟩
      rw [Bool.and_eq_true, hq x hx, hmem, Bool.not_eq_true', decide_eq_false_iff_not]
      constructor
      · rintro ⟨h1, h2⟩
        rcases h1 with h1 | h1 | h1
        · exact .inl h1
        · exact absurd h1 h2
        · exact .inr h1
      · rintro (h1 | h1)
        · exact ⟨.inl h1, fun e => by rw [e, q3] at h1; cases h1⟩
        · exact ⟨.inr (.inr h1), fun e => hnot (by rw [← e]; exact h1)⟩
end

/-! ### A disk, its log, its pool -/
structure SI (w : World) (Xl Xp Q : Nat → Prop) (pb lb db g m fb ob : Nat) (F : List PV) (s : PS) : Prop where
  hL : LAt w Xl lb db s.l
  hD : DAt w db g m s.d
  hP : PIn w Xp Q pb lb db fb ob F s.p
  wf : s.p.Wf
  lp : ∀ y, Xl y → ¬ Xp y
  ld : ¬ Xl db ∧ ¬ Xl g ∧ ¬ Xl m
  pd : ¬ Xp db ∧ ¬ Xp g ∧ ¬ Xp m
def SY (Xl Xp : Nat → Prop) (db g m : Nat) (y : Nat) : Prop := Xl y ∨ Xp y ∨ y = db ∨ y = g ∨ y = m
section
variable {w w' : World} {Xl Xp Q S : Nat → Prop} {pb lb db g m fb ob : Nat} {F : List PV} {s : PS}
theorem SI.flen (h : SI w Xl Xp Q pb lb db g m fb ob F s) : 1 ≤ F.length ∧ F.length ≤ 1024 := by rw [h.hP.len]; exact h.wf.f1
theorem SI.keep (h : SI w Xl Xp Q pb lb db g m fb ob F s) (hf : Fm S w w') (hS : ∀ y, SY Xl Xp db g m y → ¬ S y) : SI w' Xl Xp Q pb lb db g m fb ob F s :=
  ⟨h.hL.keep hf (fun y hy => hS y (.inl hy)), h.hD.keep hf (hS _ (.inr (.inr (.inl rfl)))) (hS _ (.inr (.inr (.inr (.inl rfl))))) (hS _ (.inr (.inr (.inr (.inr rfl))))), h.hP.keep hf (fun y hy => hS y (.inr (.inl hy))), h.wf, h.lp, h.ld, h.pd⟩
theorem SI.keep0 (h : SI w Xl Xp Q pb lb db g m fb ob F s) (hf : Fm (fun _ => False) w w') : SI w' Xl Xp Q pb lb db g m fb ob F s := h.keep hf (fun _ _ e => e)
theorem SI.lt (h : SI w Xl Xp Q pb lb db g m fb ob F s) : ∀ y, SY Xl Xp db g m y → y < w.heap.size := by
  have hd := h.hD.lt
  rintro y (hy | hy | rfl | rfl | rfl)
  · exact h.hL.lt y hy
  · exact h.hP.lt y hy
  · exact hd.1
  · exact hd.2.1
  · exact hd.2.2
/-- A pool's page is written. -/
theorem SI.setF (h : SI w Xl Xp Q pb lb db g m fb ob F s) {i : Nat} {x : PV} (hi : F[i]? = some x) {b : Bool} {k : KV} (hk : ∀ w', SI w' Xl Xp Q pb lb db g m fb ob (F.set i ({ x.1 with chg := b }, x.2)) ⟨s.p.lay i { x.1 with chg := b }, s.l, s.d⟩ → Fm (· = fb) w w' → k undef w') :
    St 1 w (.pointer (some ⟨fb, i * 8 + 7, none⟩)) (.bool b) k := by
  have hil := (List.getElem?_eq_some_iff.1 hi).1
  have hmem := List.mem_of_getElem? hi
  refine St_blk h.hP.fr (by rw [List.size_toArray, flat_len frC_len]; omega) rfl ?_
  intro w' hw' hs' hf'
  have hset := flat_set1 frC_len (F := F) (y := (({ x.1 with chg := b }, x.2) : PV)) (u := .bool b) hi (j := 7) (by omega) rfl
  rw [List.setIfInBounds_toArray, ← hset] at hw'
  have hx0 := h.hP.it x hmem
  have hfb : ∀ y, Q y → ¬ y = fb := by rintro y hy rfl; exact h.hP.qs.2.1 hy
  have hput := h.hP.put (x := (({ x.1 with chg := b }, x.2) : PV)) hf' (fun y e => .inl e) hw' (hx0.keep hf' hfb) (fun _ e => e) (fun y hy => .inl hy)
  have hX : (fun y => Xp y ∨ Q y) = Xp := by
    funext y
    exact propext ⟨fun e => e.elim (fun e => e) (h.hP.xs.2.2.2 y), .inl⟩
  rw [hX] at hput
  refine hk w' ⟨h.hL.keep hf' (by rintro y hy rfl; exact h.lp _ hy h.hP.xs.2.1), h.hD.keep hf' (by rintro rfl; exact h.pd.1 h.hP.xs.2.1) (by rintro rfl; exact h.pd.2.1 h.hP.xs.2.1) (by rintro rfl; exact h.pd.2.2 h.hP.xs.2.1), hput, h.wf.lay ?_, h.lp, h.ld, h.pd⟩ hf'
  have := (h.hP.frg hi).1
  exact h.wf.nums x.1 (List.mem_of_getElem? this)
theorem SI.flush (h : SI w Xl Xp Q pb lb db g m fb ob F s) (u : Int) : Cl Tryz.prog 26 [pv lb, iv u] w fun v w' => v = iv (s.l.flush u s.d).2.2 ∧ SI w' Xl Xp Q pb lb db g m fb ob F ⟨s.p, (s.l.flush u s.d).1, (s.l.flush u s.d).2.1⟩ ∧ Fm (SY Xl Xp db g m) w w' := by
  refine (wflush_spec h.hL h.hD h.ld u).mono ?_
  rintro v w' ⟨rfl, h1, h2, hf⟩
  have hlb := h.hL.lb
  refine ⟨rfl, ⟨h1, h2, h.hP.keep hf ?_, h.wf, h.lp, h.ld, h.pd⟩, hf.mono ?_⟩
  · rintro y hy (rfl | rfl | rfl | rfl)
    · exact h.lp _ hlb hy
    · exact h.pd.1 hy
    · exact h.pd.2.1 hy
    · exact h.pd.2.2 hy
  · rintro y _ (rfl | rfl | rfl | rfl)
    · exact .inl hlb
    · exact .inr (.inr (.inl rfl))
    · exact .inr (.inr (.inr (.inl rfl)))
    · exact .inr (.inr (.inr (.inr rfl)))
theorem SI.synced (h : SI w Xl Xp Q pb lb db g m fb ob F s) : Cl Tryz.prog 39 [pv pb] w fun v w' => SI w' Xl Xp Q pb lb db g m fb ob F ⟨s.p.synced, s.l, s.d⟩ ∧ Fm (SY Xl Xp db g m) w w' := by
  refine (psynced_spec h.hP h.flen.2).mono ?_
  rintro v w' ⟨h1, hf⟩
  have ho := h.hP.xs.2.2.1
  exact ⟨⟨h.hL.keep hf (by rintro y hy rfl; exact h.lp _ hy ho), h.hD.keep hf (by rintro rfl; exact h.pd.1 ho) (by rintro rfl; exact h.pd.2.1 ho) (by rintro rfl; exact h.pd.2.2 ho), h1, h.wf.of_fr rfl rfl rfl, h.lp, h.ld, h.pd⟩, hf.mono (by rintro y _ rfl; exact .inr (.inl ho))⟩
theorem SI.disk (h : SI w Xl Xp Q pb lb db g m fb ob F s) {d' : Dk} (hd : DAt w' db g m d') (hf : Fm (fun x => x = db ∨ x = g ∨ x = m) w w') : SI w' Xl Xp Q pb lb db g m fb ob F ⟨s.p, s.l, d'⟩ ∧ Fm (SY Xl Xp db g m) w w' := by
  refine ⟨⟨h.hL.keep hf ?_, hd, h.hP.keep hf ?_, h.wf, h.lp, h.ld, h.pd⟩, hf.mono (fun y _ e => .inr (.inr e))⟩
  · rintro y hy (rfl | rfl | rfl)
    · exact h.ld.1 hy
    · exact h.ld.2.1 hy
    · exact h.ld.2.2 hy
  · rintro y hy (rfl | rfl | rfl)
    · exact h.pd.1 hy
    · exact h.pd.2.1 hy
    · exact h.pd.2.2 hy
theorem SY_trans {a b c : World} (h : Fm (SY Xl Xp db g m) a b) (k : Fm (SY Xl Xp db g m) b c) : Fm (SY Xl Xp db g m) a c := h.trans k (fun _ _ e => e) (fun _ _ e => e)
theorem SY_of {a b : World} (h : Fm (fun _ => False) a b) : Fm (SY Xl Xp db g m) a b := h.mono (fun _ _ e => e.elim)
theorem encR_eq (p : Pg) : encR p = .tuple #[stv (pEnc p).1, iv (pEnc p).2] := rfl
set_option maxHeartbeats 4000000 in
theorem pwrite1_spec (h : SI w Xl Xp Q pb lb db g m fb ob F s) {i : Nat} {x : PV} (hi : F[i]? = some x) : Cl Tryz.prog 109 [pv pb, .pointer (some ⟨fb, i * 8, none⟩)] w fun v w' => v = iv (s.write1 i).2 ∧ (∃ F', SI w' Xl Xp Q pb lb db g m fb ob F' (s.write1 i).1) ∧ Fm (SY Xl Xp db g m) w w' := by
  obtain ⟨_, hget⟩ := h.hP.frg hi
  have hmem := List.mem_of_getElem? hi
  have hE : s.write1 i = bif decide ((s.l.last : Int) ≤ x.1.pg.lsn) then (bif decide ((s.l.flush x.1.pg.lsn s.d).2.2 = 0) then (PS.mk s.p.synced (s.l.flush x.1.pg.lsn s.d).1 (s.l.flush x.1.pg.lsn s.d).2.1).put i else (⟨s.p, (s.l.flush x.1.pg.lsn s.d).1, (s.l.flush x.1.pg.lsn s.d).2.1⟩, (s.l.flush x.1.pg.lsn s.d).2.2)) else s.put i := by
    unfold PS.write1 PS.flu
    rw [hget]
  refine c109 ?_; unfold T109
  refine Jn_at (fun vs w' => vs = [] ∧ ∃ s1, SI w' Xl Xp Q pb lb db g m fb ob F s1 ∧ s1.p.fr = s.p.fr ∧ Fm (SY Xl Xp db g m) w w' ∧ s.write1 i = s1.put i) ?_ ?_
  · rintro _ w2 ⟨rfl, s1, h1, hfr, hF2, he⟩ _
    refine ⟨rfl, ?_⟩
    rw [he]
    clear hE he
    have hg1 : s1.p.get i = x.1 := (h1.hP.frg hi).2
    have hput : s1.put i = bif decide ((pEnc x.1.pg).2 = 0) then (bif decide ((s1.d.write ((s1.p.frm : Int) + 8 * x.1.num) (pEnc x.1.pg).1).2 = 0) then (⟨s1.p.lay i { x.1 with chg := false }, s1.l, (s1.d.write ((s1.p.frm : Int) + 8 * x.1.num) (pEnc x.1.pg).1).1⟩, 0) else (⟨s1.p, s1.l, (s1.d.write ((s1.p.frm : Int) + 8 * x.1.num) (pEnc x.1.pg).1).1⟩, (s1.d.write ((s1.p.frm : Int) + 8 * x.1.num) (pEnc x.1.pg).1).2)) else (s1, (pEnc x.1.pg).2) := by
      unfold PS.put PS.putW
      rw [hg1]
    simp only [RS0, RS1, RS2, RS3, RS4, RS5, h1.hP.pg6 hi]
    refine (encode_spec (h1.hP.it x hmem).now).mono ?_
    rintro _ w3 ⟨rfl, hf3⟩
    rw [encR_eq]
    have h3 := h1.keep0 hf3
    have hF3 := SY_trans hF2 (SY_of hf3)
    simp only [RS0, RS1, RS2, RS3, RS4, RS5]
    refine Jn_at (fun vs w' => ∃ (e : Int) (d' : Dk), vs = [iv e] ∧ SI w' Xl Xp Q pb lb db g m fb ob F ⟨s1.p, s1.l, d'⟩ ∧ Fm (SY Xl Xp db g m) w w' ∧ s1.put i = bif decide (e = 0) then (⟨s1.p.lay i { x.1 with chg := false }, s1.l, d'⟩, 0) else (⟨s1.p, s1.l, d'⟩, e)) ?_ ?_
    · rintro _ w4 ⟨e, d', rfl, h4, hF4, he⟩ _
      refine ⟨_, rfl, ?_⟩
      rw [he]
      refine Jn_at (fun vs w' => vs = [] ∧ ∃ F', SI w' Xl Xp Q pb lb db g m fb ob F' (bif decide (e = 0) then (PS.mk (s1.p.lay i { x.1 with chg := false }) s1.l d') else ⟨s1.p, s1.l, d'⟩) ∧ Fm (SY Xl Xp db g m) w w') ?_ ?_
      · rintro _ w5 ⟨rfl, F', h5, hF5⟩ _
        refine ⟨rfl, ?_⟩
        cases hq : decide (e = 0) with
        | true =>
          rw [hq] at h5
          rw [decide_eq_true_eq] at hq
          exact ⟨by rw [hq]; rfl, ⟨F', h5⟩, hF5⟩
        | false =>
          rw [hq] at h5
          exact ⟨rfl, ⟨F', h5⟩, hF5⟩
      intro jj hjj
      simp only [RS0, RS1, RS2, RS3, RS4, RS5, beq_dec]
      cases hq : decide (e = 0) with
      | true =>
        simp only [RS0, RS1, RS2, RS3, RS4, RS5]
        refine h4.setF hi ?_
        intro w5 h5 hf5
        exact hjj _ _ ⟨rfl, _, by rw [hq]; exact h5, hF4.trans hf5 (fun _ _ e => e) (by rintro y _ rfl; exact .inr (.inl h4.hP.xs.2.1))⟩
      | false =>
        simp only [RS0, RS1, RS2, RS3, RS4, RS5]
        exact hjj _ _ ⟨rfl, F, by rw [hq]; exact h4, hF4⟩
    intro jj hjj
    simp only [RS0, RS1, RS2, RS3, RS4, RS5, beq_dec]
    cases hq : decide ((pEnc x.1.pg).2 = 0) with
    | false =>
      rw [hq, cond_false] at hput
      simp only [RS0, RS1, RS2, RS3, RS4, RS5]
      exact hjj _ _ ⟨_, s1.d, rfl, h3, hF3, by rw [hput, hq]; rfl⟩
    | true =>
      rw [hq, cond_true] at hput
      have hlen : (pEnc x.1.pg).1.length ≤ 9223372036854775807 := by
        rw [pEnc_len (by rw [← pEnc_err]; exact of_decide_eq_true hq)]; omega
      have hnum := h3.wf.nums x.1 (List.mem_of_getElem? (h3.hP.frg hi).1)
      have hpg := h3.wf.pg
      have e1 : IntKind.i64.wrap (8 * x.1.num) = 8 * x.1.num := by rw [wrap_id]; omega
      have e2 : IntKind.i64.wrap ((s1.p.frm : Int) + 8 * x.1.num) = (s1.p.frm : Int) + 8 * x.1.num := by rw [wrap_id]; omega
      have hfd := Fm.drew (fun _ => False) w3
      have h3d := h3.keep0 hfd
      simp only [RS0, RS1, RS2, RS3, RS4, RS5, h3.hP.c0, h3.hP.c2, h3.hP.f6 hi, true_and, e1, e2]
      refine (dwrite_spec h3d.hD _ _ hlen).mono ?_
      rintro _ w4 ⟨rfl, hd4, hf4⟩
      obtain ⟨h4, hF4⟩ := h3d.disk hd4 hf4
      try simp only [RS0, RS1, RS2, RS3, RS4, RS5]
      refine hjj _ _ ⟨_, _, rfl, h4, SY_trans hF3 (SY_trans (SY_of hfd) hF4), ?_⟩
      rw [hput]
  intro jj hjj
  have hfd := Fm.drew (fun _ => False) w
  have hd := h.keep0 hfd
  refine ⟨fun w' => Fm (fun _ => False) w w', hfd, ?_⟩
  simp only [RS0, RS1, RS2, RS3, RS4, RS5, h.hP.c1, true_and]
  refine ⟨iv x.1.pg.lsn, fun w' h' => ?_, ?_⟩
  · simp only [RS0, RS1, RS2, RS3, RS4, RS5, (h.hP.keep0 h').f0 hi] <;> trivial
  refine (wflushed_spec hd.hL).mono ?_
  rintro _ w2 ⟨rfl, hf2⟩
  have hF2 := Fmf hfd hf2
  refine ⟨hF2, ?_⟩
  have h2 := h.keep0 hF2
  cases hq : decide ((s.l.last : Int) ≤ x.1.pg.lsn) with
  | false =>
    rw [hq, cond_false] at hE
    simp only [RS0, RS1, RS2, RS3, RS4, RS5, hq]
    exact hjj _ _ ⟨rfl, s, h2, rfl, SY_of hF2, hE⟩
  | true =>
    rw [hq, cond_true] at hE
    have hfd2 := Fm.drew (fun _ => False) w2
    simp only [RS0, RS1, RS2, RS3, RS4, RS5, hq, h2.hP.c1, h2.hP.f0 hi, true_and]
    refine ((h2.keep0 hfd2).flush x.1.pg.lsn).mono ?_
    rintro _ w3 ⟨rfl, h3, hF3⟩
    have hF3' := SY_trans (SY_of (Fmf hF2 hfd2)) hF3
    simp only [RS0, RS1, RS2, RS3, RS4, RS5, bne_dec]
    cases hz : decide ((s.l.flush x.1.pg.lsn s.d).2.2 = 0) with
    | false =>
      rw [hz, cond_false] at hE
      simp only [RS0, RS1, RS2, RS3, RS4, RS5]
      rw [hE]
      exact ⟨rfl, ⟨F, h3⟩, hF3'⟩
    | true =>
      rw [hz, cond_true] at hE
      simp only [RS0, RS1, RS2, RS3, RS4, RS5]
      refine h3.synced.mono ?_
      rintro _ w4 ⟨h4, hF4⟩
      exact hjj _ _ ⟨rfl, _, h4, rfl, SY_trans hF3' hF4, hE⟩
end
end Go.Proofs.YthbngnlmgplijaaGreatDoor

namespace Go.Proofs.YthbngnlmgplijaaGreatDoor
open Go.Al Go.Proofs
set_option linter.unusedVariables false
set_option linter.unusedSimpArgs false
set_option linter.unusedSectionVars false
set_option maxRecDepth 100000

abbrev nlv : Value := .slice none 0 0
theorem bldFr0 (w : World) : (Instr.build 143 #[(1, iv (-1))]).run Tryz.prog w = .ok (.agg (frC (pf0, nlv)).toArray) w := by kernel_rfl
theorem bldFr1 (p : Pg) (a : Option Addr) (j c : Nat) (n : Int) (w : World) : (Instr.build 143 #[(0, .agg (pcs p (.slice a j c))), (1, iv n)]).run Tryz.prog w = .ok (.agg (frC (⟨p, n, false⟩, .slice a j c)).toArray) w := by kernel_rfl
theorem bldFr2 (p : Pg) (a : Option Addr) (j c : Nat) (n : Int) (w : World) : (Instr.build 143 #[(0, .agg (pcs p (.slice a j c))), (1, iv n), (2, .bool true)]).run Tryz.prog w = .ok (.agg (frC (⟨p, n, true⟩, .slice a j c)).toArray) w := by kernel_rfl
theorem frC_one {x : PV} (h : x.2.oneCell' = true) : ∀ u ∈ (frC x).toArray.toList, u.oneCell' = true := by
  intro u hu
  simp [frC] at hu
  rcases hu with rfl | rfl | rfl | rfl | rfl | rfl | rfl | rfl <;> first | rfl | assumption
theorem PgAs.sl {w : World} {cs : Array Value} {p : Pg} (h : PgAs w cs p) : ∃ a j c, cs = pcs p (.slice a j c) := by
  obtain ⟨v, h1, _, h3⟩ := h.ex
  obtain ⟨a, j, c, rfl⟩ := cells_sl h3
  exact ⟨a, j, c, h1⟩
theorem put_len (s : PS) (i : Nat) : (s.put i).1.p.fr.length = s.p.fr.length ∧ (s.put i).1.p.pages = s.p.pages ∧ (s.put i).1.p.frm = s.p.frm := by
  unfold PS.put
  cases decide ((pEnc (s.p.get i).pg).2 = 0) with
  | false => exact ⟨rfl, rfl, rfl⟩
  | true =>
    cases decide ((s.putW i).2 = 0) with
    | false => exact ⟨rfl, rfl, rfl⟩
    | true => exact ⟨Pl.lay_len _ _ _, rfl, rfl⟩
theorem write1_len (s : PS) (i : Nat) : (s.write1 i).1.p.fr.length = s.p.fr.length ∧ (s.write1 i).1.p.pages = s.p.pages ∧ (s.write1 i).1.p.frm = s.p.frm := by
  unfold PS.write1
  cases decide ((s.l.last : Int) ≤ (s.p.get i).pg.lsn) with
  | false => exact put_len s i
  | true =>
    cases decide ((s.flu i).2.2 = 0) with
    | false => exact ⟨rfl, rfl, rfl⟩
    | true => exact put_len _ i
theorem take_len (s : PS) (pick : Int) : (s.take pick).1.p.pages = s.p.pages ∧ (s.take pick).1.p.frm = s.p.frm := by
  unfold PS.take
  cases s.p.hold (-1) with
  | some i => exact ⟨rfl, rfl⟩
  | none =>
    have := write1_len s (PS.pickAt s.p.fr.length pick)
    simp only
    cases (s.p.get (PS.pickAt s.p.fr.length pick)).chg with
    | false => exact ⟨rfl, rfl⟩
    | true =>
      cases decide ((s.write1 (PS.pickAt s.p.fr.length pick)).2 = 0) with
      | false => exact this.2
      | true => exact this.2
section
variable {w w' : World} {Xl Xp Q S : Nat → Prop} {pb lb db g m fb ob : Nat} {F : List PV} {s : PS}
/-- A whole frame is laid. -/
theorem St_frame {X : Nat → Prop} {p : Pl} (h : PIn w X Q pb lb db fb ob F p) {i : Nat} (hi : i < F.length) (x : PV) (h1 : x.2.oneCell' = true) {k : KV} (hk : ∀ w', w'.heap[fb]? = some (.cells ((F.set i x).flatMap frC).toArray 143) → w'.heap.size = w.heap.size → Fm (· = fb) w w' → k undef w') :
    St 8 w (.pointer (some ⟨fb, i * 8, none⟩)) (.agg (frC x).toArray) k := by
  refine St_blkN h.fr rfl (by rw [List.size_toArray, flat_len frC_len]; omega) (frC_one h1) ?_
  intro w' hw' hs' hf'
  rw [ov_eq _ _ _ (by rw [List.size_toArray, flat_len frC_len]; show i * 8 + 8 ≤ _; omega)] at hw'
  refine hk w' ?_ hs' hf'
  rw [hw', flat_split frC_len F i x hi]
  rfl
/-- A frame is laid: what is there then. -/
theorem SI.lay (h : SI w Xl Xp Q pb lb db g m fb ob F s) {Q' : Nat → Prop} {i : Nat} {x : PV} (hf : Fm S w w') (hS : ∀ y, S y → y = fb ∨ ¬ SY Xl Xp db g m y) (hfr : w'.heap[fb]? = some (.cells ((F.set i x).flatMap frC).toArray 143)) (hx : HeldP w' Q' x.2 x.1.pg)
    (hQ : ∀ y, Q y → Q' y) (hQ' : ∀ y, Q' y → Q y ∨ (¬ SY Xl Xp db g m y ∧ y < w'.heap.size)) (hn : x.1.num = -1 ∨ (0 ≤ x.1.num ∧ x.1.num < (s.p.pages : Int))) : SI w' Xl (fun y => Xp y ∨ Q' y) Q' pb lb db g m fb ob (F.set i x) (s.lay i x.1) := by
  have hfb := h.hP.xs.2.1
  have hno : ∀ y, SY Xl Xp db g m y → y ≠ fb → ¬ S y := fun y hy hne e => by
    rcases hS y e with e | e
    · exact hne e
    · exact e hy
  have hnq : ∀ y, ¬ Xp y → SY Xl Xp db g m y → ¬ Q' y := fun y h1 h2 e => by
    rcases hQ' y e with e | e
    · exact h1 (h.hP.xs.2.2.2 y e)
    · exact e.1 h2
  refine ⟨h.hL.keep hf (fun y hy => hno y (.inl hy) (by rintro rfl; exact h.lp _ hy hfb)), h.hD.keep hf (hno _ (.inr (.inr (.inl rfl))) (by rintro rfl; exact h.pd.1 hfb)) (hno _ (.inr (.inr (.inr (.inl rfl)))) (by rintro rfl; exact h.pd.2.1 hfb)) (hno _ (.inr (.inr (.inr (.inr rfl)))) (by rintro rfl; exact h.pd.2.2 hfb)), h.hP.put hf (fun y hy => ?_) hfr hx hQ (fun y hy => ?_), h.wf.lay hn, ?_, h.ld, ?_⟩
  · rcases hS y hy with e | e
    · exact .inl e
    · exact .inr (fun hx => e (.inr (.inl hx)))
  · rcases hQ' y hy with e | e
    · exact .inl e
    · exact .inr ⟨fun hx => e.1 (.inr (.inl hx)), e.2⟩
  · rintro y hy (e | e)
    · exact h.lp y hy e
    · exact hnq y (h.lp y hy) (.inl hy) e
  · refine ⟨?_, ?_, ?_⟩ <;> rintro (e | e)
    · exact h.pd.1 e
    · exact hnq _ h.pd.1 (.inr (.inr (.inl rfl))) e
    · exact h.pd.2.1 e
    · exact hnq _ h.pd.2.1 (.inr (.inr (.inr (.inl rfl)))) e
    · exact h.pd.2.2 e
    · exact hnq _ h.pd.2.2 (.inr (.inr (.inr (.inr rfl)))) e
theorem SI.same (h : SI w Xl Xp Q pb lb db g m fb ob F s) : (fun y => Xp y ∨ Q y) = Xp := by
  funext y
  exact propext ⟨fun e => e.elim (fun e => e) (h.hP.xs.2.2.2 y), .inl⟩
set_option maxHeartbeats 2000000 in
theorem ptake_spec (h : SI w Xl Xp Q pb lb db g m fb ob F s) (pick : Int) : Cl Tryz.prog 105 [pv pb, iv pick] w fun v w' => ∃ F', SI w' Xl Xp Q pb lb db g m fb ob F' (s.take pick).1 ∧ Fm (SY Xl Xp db g m) w w' ∧
    (((s.take pick).2.2 ≠ 0 ∧ v = .tuple #[.pointer none, iv (s.take pick).2.2]) ∨ ((s.take pick).2.2 = 0 ∧ v = .tuple #[.pointer (some ⟨fb, (s.take pick).2.1 * 8, none⟩), iv 0] ∧ (s.take pick).2.1 < F'.length)) := by
  have hfl := h.flen
  have hlen := h.hP.len
  refine c105 ?_; unfold T105
  refine (pholds_spec h.hP hfl.2 (-1)).mono ?_
  rintro _ w2 ⟨rfl, rfl⟩
  unfold PS.take
  cases hh : s.p.hold (-1) with
  | some i =>
    obtain ⟨f, hf, _⟩ := Pl.hold_some hh
    have := (List.getElem?_eq_some_iff.1 hf).1
    simp only [holdV]
    simp only [RS0, RS1, RS2, RS3, RS4, RS5]
    exact ⟨F, h, Fm.refl _ _, .inr ⟨(by trivial), (by trivial), by omega⟩⟩
  | none =>
    simp only [holdV]
    obtain ⟨m1, m2, m3, m4⟩ := mod3 (TypeDesc.int IntKind.i64) (n := F.length) (by omega) (by omega) pick
    have hpk : PS.pickAt s.p.fr.length pick = modN F.length pick := by unfold PS.pickAt; rw [hlen]
    rw [hpk]
    generalize modN F.length pick = i at m3 m4
    have hx : F[i]? = some F[i] := List.getElem?_eq_getElem m4
    generalize F[i] = x at hx
    rw [(h.hP.frg hx).2]
    have hfd := Fm.drew (fun _ => False) w2
    simp only [RS0, RS1, RS2, RS3, RS4, RS5, h.hP.c4, true_and, m1, m2, m3, PIn.ix i m4 fb]
    refine Jn_at (fun vs w' => vs = [] ∧ ∃ F1 s1, F1.length = F.length ∧ SI w' Xl Xp Q pb lb db g m fb ob F1 s1 ∧ Fm (SY Xl Xp db g m) w2 w' ∧ (bif x.1.chg then (bif decide ((s.write1 i).2 = 0) then ((s.write1 i).1.lay i pf0, i, 0) else ((s.write1 i).1, 0, (s.write1 i).2)) else (s.lay i pf0, i, 0)) = (s1.lay i pf0, i, 0)) ?_ ?_
    · rintro _ w4 ⟨rfl, F1, s1, hl1, h4, hF4, he⟩ _
      refine ⟨rfl, ?_⟩
      rw [he]
      refine RunS_ok (bldFr0 _) ?_
      simp only [RS0, RS1, RS2, RS3, RS4, RS5]
      refine St_frame h4.hP (i := i) (by omega) (pf0, nlv) rfl ?_
      intro w5 hw5 hs5 hf5
      have h5 := h4.lay (x := (pf0, nlv)) hf5 (fun y e => .inl e) hw5 (HeldP.zero _ _) (fun _ e => e) (fun y e => .inl e) (.inl rfl)
      rw [h4.same] at h5
      exact ⟨_, h5, SY_trans hF4 (hf5.mono (by rintro y _ rfl; exact .inr (.inl h4.hP.xs.2.1))), .inr ⟨(by trivial), (by trivial), by rw [List.length_set]; omega⟩⟩
    intro jj hjj
    have hd := h.keep0 hfd
    simp only [RS0, RS1, RS2, RS3, RS4, RS5, h.hP.f7 hx]
    cases hc : x.1.chg with
    | false =>
      rw [hc, cond_false] at hjj
      simp only [RS0, RS1, RS2, RS3, RS4, RS5]
      exact hjj _ _ ⟨rfl, F, s, rfl, hd, SY_of hfd, rfl⟩
    | true =>
      rw [hc, cond_true] at hjj
      simp only [cond_true]
      simp only [RS0, RS1, RS2, RS3, RS4, RS5]
      refine (pwrite1_spec hd hx).mono ?_
      rintro _ w3 ⟨rfl, ⟨F', h3⟩, hF3⟩
      have hF3' := SY_trans (SY_of hfd) hF3
      simp only [RS0, RS1, RS2, RS3, RS4, RS5, bne_dec]
      cases hq : decide ((s.write1 i).2 = 0) with
      | true =>
        rw [hq, cond_true] at hjj
        simp only [RS0, RS1, RS2, RS3, RS4, RS5]
        exact hjj _ _ ⟨rfl, F', (s.write1 i).1, by rw [h3.hP.len, (write1_len s i).1, hlen], h3, hF3', rfl⟩
      | false =>
        rw [decide_eq_false_iff_not] at hq
        simp only [RS0, RS1, RS2, RS3, RS4, RS5, cond_false]
        exact ⟨F', h3, hF3', .inl ⟨hq, (by trivial)⟩⟩
theorem read_le {d : Dk} (h : d.Wf) (a k : Int) : (d.read a k).1.length ≤ 64 * 65536 := by
  unfold Dk.read
  cases d.gone with
  | true => simp
  | false =>
    cases d.has a k with
    | false => simp
    | true =>
      simp only [cond_false, Bool.not_true]
      rw [Dk.flat_len (fun x hx => h.s1 x (List.mem_of_mem_drop (List.mem_of_mem_take hx))), List.length_take, List.length_drop]
      have := h.n1
      omega
theorem known_range {p : Pl} {n : Int} (h : p.known n = 0) : 0 ≤ n ∧ n < (p.pages : Int) := by
  unfold Pl.known at h
  cases h1 : decide (n < 0) with
  | true => rw [h1] at h; cases h
  | false =>
    cases h2 : decide ((p.pages : Int) ≤ n) with
    | true => rw [h1, h2] at h; cases h
    | false =>
      rw [decide_eq_false_iff_not] at h1 h2
      omega
theorem retPf {w : World} {g : Nat} {cs : Array Value} {u : Value} (h : w.heap[g]? = some (.cells cs 61)) (hn : cs.size = 6) {k : KV} (hk : k (.tuple #[.agg cs, u]) w) : RetO (resL Tryz.prog (fun j => bif Nat.beq j 6 then pv g else bif Nat.beq j 7 then u else undef) w [(ResultVar.cell 6 61), (ResultVar.tmp 7)]) w k :=
  retPg (g := g) (i := 6) (j := 7) (u := u) h hn rfl rfl k hk
theorem pcs_inj {p : Pg} {v u : Value} (h : pcs p v = pcs p u) : v = u := by
  have e : (pcs p v).toList = (pcs p u).toList := by rw [h]
  simpa [pcs] using e
set_option maxHeartbeats 4000000 in
theorem pfetch_spec (h : SI w Xl Xp Q pb lb db g m fb ob F s) (n pick : Int) : Cl Tryz.prog 33 [pv pb, iv n, iv pick] w fun v w' => ∃ u, v = .tuple #[.agg (pcs (s.fetch n pick).2.1 u), iv (s.fetch n pick).2.2] ∧ PgOw w' w.heap.size (pcs (s.fetch n pick).2.1 u) (s.fetch n pick).2.1 ∧
    (∃ Xp' Q' F', SI w' Xl Xp' Q' pb lb db g m fb ob F' (s.fetch n pick).1 ∧ (∀ y, Xp' y → Xp y ∨ w.heap.size ≤ y) ∧ ∀ k, u.ownBlock = some k → ¬ Xp' k) ∧ Fm (SY Xl Xp db g m) w w' := by
  have hfl := h.flen
  have hlt := h.lt
  have hfetch : s.fetch n pick = bif decide (s.p.known n = 0) then (match s.p.hold n with
    | some i => (s, (s.p.get i).pg, 0)
    | none => bif decide ((s.raw n).2 = 0) then (bif decide ((pDec (s.raw n).1).2 = 0) then (bif decide ((s.take pick).2.2 = 0) then ((s.take pick).1.lay (s.take pick).2.1 ⟨(pDec (s.raw n).1).1, n, false⟩, (pDec (s.raw n).1).1, 0) else ((s.take pick).1, pg0, (s.take pick).2.2)) else (s, pg0, 60)) else (s, pg0, (s.raw n).2))
    else (s, pg0, s.p.known n) := rfl
  refine c33 ?_; unfold T33
  rw [pg0_cells]
  refine New_any ?_
  intro x1 w1 hx1 hs1 hw1 hf1
  have h1 := h.keep0 hf1
  have bad : ∀ {w2 : World} {Xp' Q' F'} {s' : PS}, SI w2 Xl Xp' Q' pb lb db g m fb ob F' s' → (∀ y, Xp' y → Xp y ∨ w.heap.size ≤ y) → w2.heap[x1]? = some (.cells (pcs pg0 nlv) 61) → ¬ SY Xl Xp' db g m x1 → Fm (SY Xl Xp db g m) w w2 → ∀ e : Int, s.fetch n pick = (s', pg0, e) →
      St 6 w2 (pv x1) (.agg (pcs pg0 nlv)) fun u_8 w_9 => RetO (resL Tryz.prog (fun j => bif Nat.beq j 6 then pv x1 else bif Nat.beq j 7 then iv e else undef) w_9 [(ResultVar.cell 6 61), (ResultVar.tmp 7)]) w_9 (fun v w' => ∃ u, v = .tuple #[.agg (pcs (s.fetch n pick).2.1 u), iv (s.fetch n pick).2.2] ∧ PgOw w' w.heap.size (pcs (s.fetch n pick).2.1 u) (s.fetch n pick).2.1 ∧
    (∃ Xp' Q' F', SI w' Xl Xp' Q' pb lb db g m fb ob F' (s.fetch n pick).1 ∧ (∀ y, Xp' y → Xp y ∨ w.heap.size ≤ y) ∧ ∀ k, u.ownBlock = some k → ¬ Xp' k) ∧ Fm (SY Xl Xp db g m) w w') := by
    intro w2 Xp' Q' F' s' h2 hX hw2 hno hF e he
    rw [he]
    refine St_all hw2 rfl rfl (pcs_one rfl) ?_
    intro w3 hw3 hs3 hf3
    refine retPf hw3 rfl ⟨nlv, rfl, PgOw.zero _ _, ⟨Xp', Q', F', h2.keep hf3 (by rintro y hy rfl; exact hno hy), hX, fun k hk => by cases hk⟩, hF.trans hf3 (fun _ _ e => e) (by rintro y hy rfl; omega)⟩
  have good : ∀ {w2 : World} {Xp' Q' F'} {s' : PS} {i : Nat} {x : PV}, SI w2 Xl Xp' Q' pb lb db g m fb ob F' s' → (∀ y, Xp' y → Xp y ∨ w.heap.size ≤ y) → w2.heap[x1]? = some (.cells (pcs pg0 nlv) 61) → ¬ SY Xl Xp' db g m x1 → Fm (SY Xl Xp db g m) w w2 → F'[i]? = some x → s.fetch n pick = (s', x.1.pg, 0) →
      Cl Tryz.prog 107 [.pointer (some ⟨fb, i * 8, none⟩)] w2 fun t71 w_66 => St 6 w_66 (pv x1) t71 fun u_8 w_9 => RetO (resL Tryz.prog (fun j => bif Nat.beq j 6 then pv x1 else bif Nat.beq j 7 then iv 0 else undef) w_9 [(ResultVar.cell 6 61), (ResultVar.tmp 7)]) w_9 (fun v w' => ∃ u, v = .tuple #[.agg (pcs (s.fetch n pick).2.1 u), iv (s.fetch n pick).2.2] ∧ PgOw w' w.heap.size (pcs (s.fetch n pick).2.1 u) (s.fetch n pick).2.1 ∧
    (∃ Xp' Q' F', SI w' Xl Xp' Q' pb lb db g m fb ob F' (s.fetch n pick).1 ∧ (∀ y, Xp' y → Xp y ∨ w.heap.size ≤ y) ∧ ∀ k, u.ownBlock = some k → ¬ Xp' k) ∧ Fm (SY Xl Xp db g m) w w') := by
    intro w2 Xp' Q' F' s' i x h2 hX hw2 hno hF hx he
    rw [he]
    refine (pfresh_spec h2.hP hx).mono ?_
    rintro _ w3 ⟨cs, rfl, ho, hf3⟩
    obtain ⟨u, rfl, hou⟩ := ho.ex
    have hul := own_lt hou
    have h3 := h2.keep0 hf3
    have z2 := hF.size
    have hx1l := lt_of_heap hw2
    refine St_all (hf3.heap hw2 (fun e => e)) rfl rfl (pcs_one (own_one hou)) ?_
    intro w4 hw4 hs4 hf4
    refine retPf hw4 rfl ⟨u, rfl, ⟨⟨u, rfl, own_base (own_keep hou hf4 (fun k hk _ _ e => by omega)) z2⟩, ho.small, ho.ins⟩, ⟨Xp', Q', F', h3.keep hf4 (by rintro y hy rfl; exact hno hy), hX, fun k hk e => ?_⟩, (SY_trans hF (SY_of hf3)).trans hf4 (fun _ _ e => e) (by rintro y hy rfl; omega)⟩
    have := (hul k hk).1
    have := h2.lt k (.inr (.inl e))
    omega
  have hnx : ¬ SY Xl Xp db g m x1 := fun e => by have := hlt _ e; omega
  refine (pknown_spec h1.hP n).mono ?_
  rintro _ w1 ⟨rfl, rfl⟩
  simp only [RS0, RS1, RS2, RS3, RS4, RS5, bne_dec]
  cases hk : decide (s.p.known n = 0) with
  | false =>
    rw [hk, cond_false] at hfetch
    simp only [RS0, RS1, RS2, RS3, RS4, RS5]
    refine RunS_ok (bld24z _) ?_
    exact bad h1 (fun y e => .inl e) hw1 hnx (SY_of hf1) _ hfetch
  | true =>
    rw [hk, cond_true] at hfetch
    rw [decide_eq_true_eq] at hk
    have hrange := known_range hk
    have hpg := h.wf.pg
    simp only [RS0, RS1, RS2, RS3, RS4, RS5]
    refine (pholds_spec h1.hP hfl.2 n).mono ?_
    rintro _ w1 ⟨rfl, rfl⟩
    cases hh : s.p.hold n with
    | some i =>
      rw [hh] at hfetch
      obtain ⟨f, hf, _⟩ := Pl.hold_some hh
      rw [← h.hP.fs, List.getElem?_map, Option.map_eq_some_iff] at hf
      obtain ⟨x, hx, rfl⟩ := hf
      simp only [(h.hP.frg hx).2] at hfetch
      simp only [holdV]
      simp only [RS0, RS1, RS2, RS3, RS4, RS5]
      exact good h1 (fun y e => .inl e) hw1 hnx (SY_of hf1) hx hfetch
    | none =>
      rw [hh] at hfetch
      simp only at hfetch
      simp only [holdV]
      have hfd := Fm.drew (fun _ => False) w1
      have e1 : IntKind.i64.wrap (8 * n) = 8 * n := by rw [wrap_id]; omega
      have e2 : IntKind.i64.wrap ((s.p.frm : Int) + 8 * n) = (s.p.frm : Int) + 8 * n := by rw [wrap_id]; omega
      have h2 := h1.keep0 hfd
      have hw2 := hfd.heap hw1 (fun e => e)
      have hF2 := Fmf hf1 hfd
      have hle := read_le h.hD.wf ((s.p.frm : Int) + 8 * n) 8
      have hraw : s.raw n = s.d.read ((s.p.frm : Int) + 8 * n) 8 := rfl
      simp only [RS0, RS1, RS2, RS3, RS4, RS5, h1.hP.c0, h1.hP.c2, true_and, e1, e2]
      refine (dread_spec h2.hD ((s.p.frm : Int) + 8 * n) 8).mono ?_
      rintro _ w2 ⟨rfl, rfl⟩
      rw [← hraw] at hle ⊢
      generalize s.raw n = r at hfetch hle
      obtain ⟨rs, re⟩ := r
      simp only at hfetch hle
      simp only [RS0, RS1, RS2, RS3, RS4, RS5, bne_dec]
      cases hr : decide (re = 0) with
      | false =>
        rw [hr, cond_false] at hfetch
        simp only [RS0, RS1, RS2, RS3, RS4, RS5]
        refine RunS_ok (bld24z _) ?_
        exact bad h2 (fun y e => .inl e) hw2 hnx (SY_of hF2) _ hfetch
      | true =>
        rw [hr, cond_true] at hfetch
        simp only [RS0, RS1, RS2, RS3, RS4, RS5]
        refine (decode_spec _ rs (by omega)).mono ?_
        rintro _ w3 ⟨cs, rfl, ho3, hf3⟩
        generalize pDec rs = pd at hfetch ho3
        obtain ⟨pg, pe⟩ := pd
        simp only at hfetch ho3
        obtain ⟨v3, rfl, hou3⟩ := ho3.ex
        obtain ⟨a3, j3, c3, rfl⟩ := cells_sl (CellsAt.of_own hou3)
        have hF3 := Fmf hF2 hf3
        have h3 := h2.keep0 hf3
        have hw3 := hf3.heap hw2 (fun e => e)
        simp only [RS0, RS1, RS2, RS3, RS4, RS5]
        refine New_any ?_
        intro x4 w4 hx4 hs4 hw4 hf4
        refine St_all hw4 rfl rfl (pcs_one rfl) ?_
        intro w5 hw5 hs5 hf5
        have hF5 : Fm (fun _ => False) w3 w5 := Fm.own hf4 hf5 (by rintro y rfl; omega)
        have hF05 := Fmf hF3 hF5
        have h5 := h3.keep0 hF5
        have hw15 := hF5.heap hw3 (fun e => e)
        have ho5 := ho3.keep hF5
        have hul3 := own_lt hou3
        have z1 := hf1.size; have z2 := hF2.size; have z3 := hF3.size; have z5 := hF05.size
        simp only [RS0, RS1, RS2, RS3, RS4, RS5, bne_dec]
        cases hp : decide (pe = 0) with
        | false =>
          rw [hp, cond_false] at hfetch
          simp only [RS0, RS1, RS2, RS3, RS4, RS5]
          refine RunS_ok (bld24z _) ?_
          exact bad h5 (fun y e => .inl e) hw15 hnx (SY_of hF05) _ hfetch
        | true =>
          rw [hp, cond_true] at hfetch
          simp only [RS0, RS1, RS2, RS3, RS4, RS5]
          refine (ptake_spec h5 pick).mono ?_
          rintro _ w6 ⟨F6, h6, hF6, hcase⟩
          have hw16 := hF6.heap hw15 hnx
          have hF06 := SY_trans (SY_of hF05) hF6
          have z6 := hF6.size
          rcases hcase with ⟨q1, rfl⟩ | ⟨q1, rfl, q2⟩
          · rw [decide_eq_false q1, cond_false] at hfetch
            simp only [RS0, RS1, RS2, RS3, RS4, RS5, bne_dec, decide_eq_false q1]
            refine RunS_ok (bld24z _) ?_
            exact bad h6 (fun y e => .inl e) hw16 hnx hF06 _ hfetch
          · rw [q1, decide_eq_true rfl, cond_true] at hfetch
            have hnx4 : ¬ SY Xl Xp db g m x4 := fun e => by have := hlt _ e; omega
            have hw46 := hF6.heap hw5 hnx4
            simp only [RS0, RS1, RS2, RS3, RS4, RS5, bne_dec, decide_true, cellsV_blk hw46 (show (pcs pg (Value.slice a3 j3 c3)).size = 6 from rfl)]
            refine RunS_ok (bldFr1 _ _ _ _ _ _) ?_
            try simp only [RS0, RS1, RS2, RS3, RS4, RS5]
            have hdis : ∀ k, (Value.slice a3 j3 c3).ownBlock = some k → ¬ SY Xl Xp db g m k := fun k hk e => by
              have := hlt _ e
              have := (hul3 k hk).1
              have := hF2.size
              have : w1.drew.heap.size = w1.heap.size := rfl
              omega
            refine St_frame h6.hP q2 (⟨pg, n, false⟩, .slice a3 j3 c3) rfl ?_
            intro w7 hw7 hs7 hf7
            have hfb : fb ≠ x1 := fun e => hnx (by rw [← e]; exact .inr (.inl h6.hP.xs.2.1))
            have ho6 : w6.ownsRow w.heap.size 9 1 (.slice a3 j3 c3) pg.items.length (pg.items.map stv) := by
              obtain ⟨v5, e5, ho5'⟩ := ho5.ex
              rw [← pcs_inj e5] at ho5'
              exact own_base (own_keep ho5' hF6 (fun k _ _ hk => hdis k hk)) z2
            have ho7 : w7.ownsRow w.heap.size 9 1 (.slice a3 j3 c3) pg.items.length (pg.items.map stv) := own_keep ho6 hf7 (fun k _ _ hk e => hdis k hk (by rw [e]; exact .inr (.inl h6.hP.xs.2.1)))
            have hheld : HeldP w7 (fun y => Q y ∨ (Value.slice a3 j3 c3).ownBlock = some y) (.slice a3 j3 c3) pg := HeldP.of_own (b := w.heap.size) ⟨⟨_, rfl, ho7⟩, ho3.small, ho3.ins⟩ (fun y hy => .inr hy)
            have h7 := h6.lay (x := (⟨pg, n, false⟩, .slice a3 j3 c3)) hf7 (fun y e => .inl e) hw7 hheld (fun y e => .inl e) (fun y e => by
              rcases e with e | e
              · exact .inl e
              · exact .inr ⟨hdis y e, (own_lt ho7 y e).2⟩) (.inr ⟨hrange.1, by rw [(take_len s pick).1]; exact hrange.2⟩)
            refine good h7 (fun y e => ?_) (hf7.heap hw16 (fun e => hfb e.symm)) (fun e => ?_) (hF06.trans hf7 (fun _ _ e => e) (by rintro y _ rfl; exact .inr (.inl h6.hP.xs.2.1))) (i := (s.take pick).2.1) (x := (⟨pg, n, false⟩, .slice a3 j3 c3)) (by rw [List.getElem?_set, if_pos rfl, if_pos q2]) hfetch
            · rcases e with e | e | e
              · exact .inl e
              · exact .inl (h6.hP.xs.2.2.2 y e)
              · exact .inr (own_lt ho7 y e).1
            · rcases e with e | (e | e | e) | e
              · exact hnx (.inl e)
              · exact hnx (.inr (.inl e))
              · exact hnx (.inr (.inl (h6.hP.xs.2.2.2 _ e)))
              · have := (hul3 _ e).1
                have : w1.drew.heap.size = w1.heap.size := rfl
                omega
              · exact hnx (.inr (.inr e))
set_option maxHeartbeats 4000000 in
theorem pset_spec (h : SI w Xl Xp Q pb lb db g m fb ob F s) {cs : Array Value} {b : Pg} (hb : ∀ w', Fm (SY Xl Xp db g m) w w' → PgAs w' cs b) (n pick : Int) : Cl Tryz.prog 32 [pv pb, iv n, .agg cs, iv pick] w fun v w' => v = iv (s.set n b pick).2 ∧
    (∃ Xp' Q' F', SI w' Xl Xp' Q' pb lb db g m fb ob F' (s.set n b pick).1 ∧ ∀ y, Xp' y → Xp y ∨ w.heap.size ≤ y) ∧ Fm (SY Xl Xp db g m) w w' := by
  have hfl := h.flen
  have hlt := h.lt
  obtain ⟨a0, j0, c0, hcs⟩ := (hb w (Fm.refl _ _)).sl
  subst hcs
  have hset : s.set n b pick = bif decide (s.p.known n = 0) then (bif decide ((pEnc b).2 = 0) then (bif decide (b.lsn < 1) then (s, 1) else (match s.p.hold n with
      | some i => (s.own i n b, 0)
      | none => bif decide ((s.take pick).2.2 = 0) then ((s.take pick).1.own (s.take pick).2.1 n b, 0) else ((s.take pick).1, (s.take pick).2.2))) else (s, (pEnc b).2)) else (s, s.p.known n) := rfl
  refine c32 ?_; unfold T32
  refine New_any ?_
  intro x1 w1 hx1 hs1 hw1 hf1
  have h1 := h.keep0 hf1
  have hnx : ¬ SY Xl Xp db g m x1 := fun e => by have := hlt _ e; omega
  have same : ∀ {w2 : World} {s' : PS} {F' : List PV} {e : Int}, SI w2 Xl Xp Q pb lb db g m fb ob F' s' → Fm (SY Xl Xp db g m) w w2 → s.set n b pick = (s', e) → iv e = iv (s.set n b pick).2 ∧ (∃ Xp' Q' F', SI w2 Xl Xp' Q' pb lb db g m fb ob F' (s.set n b pick).1 ∧ ∀ y, Xp' y → Xp y ∨ w.heap.size ≤ y) ∧ Fm (SY Xl Xp db g m) w w2 := by
    intro w2 s' F' e h2 hF he
    rw [he]
    exact ⟨rfl, ⟨Xp, Q, F', h2, fun y e => .inl e⟩, hF⟩
  refine (pknown_spec h1.hP n).mono ?_
  rintro _ w1 ⟨rfl, rfl⟩
  simp only [RS0, RS1, RS2, RS3, RS4, RS5, bne_dec]
  cases hk : decide (s.p.known n = 0) with
  | false =>
    rw [hk, cond_false] at hset
    simp only [RS0, RS1, RS2, RS3, RS4, RS5]
    exact same h1 (SY_of hf1) hset
  | true =>
  rw [hk, cond_true] at hset
  rw [decide_eq_true_eq] at hk
  have hrange := known_range hk
  have hpg := h.wf.pg
  have hb1 := hb w1 (SY_of hf1)
  simp only [RS0, RS1, RS2, RS3, RS4, RS5, cellsV_blk hw1 (show (Value.cells (Value.agg (pcs b (Value.slice a0 j0 c0)))).size = 6 from rfl)]
  refine (encode_spec hb1).mono ?_
  rintro _ w2 ⟨rfl, hf2⟩
  rw [encR_eq]
  have h2 := h1.keep0 hf2
  have hF2 := Fmf hf1 hf2
  have hw2 := hf2.heap hw1 (fun e => e)
  have c0' : w2.cell? ⟨x1, 0, none⟩ = some (iv b.lsn) := by rw [cell_at hw2]; rfl
  simp only [RS0, RS1, RS2, RS3, RS4, RS5, bne_dec]
  cases he : decide ((pEnc b).2 = 0) with
  | false =>
    rw [he, cond_false] at hset
    simp only [RS0, RS1, RS2, RS3, RS4, RS5]
    exact same h2 (SY_of hF2) hset
  | true =>
  rw [he, cond_true] at hset
  simp only [RS0, RS1, RS2, RS3, RS4, RS5, c0']
  cases hl : decide (b.lsn < 1) with
  | true =>
    rw [hl, cond_true] at hset
    simp only [RS0, RS1, RS2, RS3, RS4, RS5]
    exact same h2 (SY_of hF2) hset
  | false =>
  rw [hl, cond_false] at hset
  simp only [RS0, RS1, RS2, RS3, RS4, RS5]
  refine (pholds_spec h2.hP hfl.2 n).mono ?_
  rintro _ w2 ⟨rfl, rfl⟩
  refine Jn_at (fun vs w' => ∃ (i : Nat) (s1 : PS) (F1 : List PV), vs = [.pointer (some ⟨fb, i * 8, none⟩)] ∧ i < F1.length ∧ SI w' Xl Xp Q pb lb db g m fb ob F1 s1 ∧ s1.p.pages = s.p.pages ∧ Fm (SY Xl Xp db g m) w w' ∧ w'.heap[x1]? = some (.cells (pcs b (.slice a0 j0 c0)) 61) ∧ s.set n b pick = (s1.own i n b, 0)) ?_ ?_
  · rintro _ w3 ⟨i, s1, F1, rfl, hi, h3, hpgs, hF3, hw3, he3⟩ _
    refine ⟨_, rfl, ?_⟩
    rw [he3]
    clear hset same
    have hb3 := hb w3 hF3
    simp only [RS0, RS1, RS2, RS3, RS4, RS5, cellsV_blk hw3 (show (pcs b (Value.slice a0 j0 c0)).size = 6 from rfl)]
    refine RunS_ok (bldFr2 _ _ _ _ _ _) ?_
    try simp only [RS0, RS1, RS2, RS3, RS4, RS5]
    refine St_frame h3.hP hi (⟨b, n, true⟩, .slice a0 j0 c0) rfl ?_
    intro w4 hw4 hs4 hf4
    have hfbx : fb ≠ x1 := fun e => hnx (by rw [← e]; exact .inr (.inl h3.hP.xs.2.1))
    have hw14 := hf4.heap hw3 (fun e => hfbx e.symm)
    have c5 : w4.cell? ⟨x1, 5, none⟩ = some (.slice a0 j0 c0) := by rw [cell_at hw14]; rfl
    have hfbY : ∀ y, y = fb → SY Xl Xp db g m y := by rintro y rfl; exact .inr (.inl h3.hP.xs.2.1)
    have hF4 : Fm (SY Xl Xp db g m) w w4 := hF3.trans hf4 (fun _ _ e => e) (fun y _ e => hfbY y e)
    have hb4 := hb w4 hF4
    obtain ⟨v0, hv0, v1, v2⟩ := hb4.ex
    obtain rfl := pcs_inj hv0
    simp only [RS0, RS1, RS2, RS3, RS4, RS5, c5]
    refine (clone_spec v2 hb4.ins.2.2.2.2.2).mono ?_
    rintro r w5 ⟨ho5, hf5⟩
    have hr1 := own_one ho5
    have hrl := own_lt ho5
    try simp only [RS0, RS1, RS2, RS3, RS4, RS5]
    refine St_blk (hf5.heap hw4 (fun e => e)) (j := i * 8 + 5) (by rw [List.size_toArray, flat_len frC_len, List.length_set]; omega) hr1 ?_
    intro w6 hw6 hs6 hf6
    have hx' : (F1.set i ((⟨b, n, true⟩, .slice a0 j0 c0) : PV))[i]? = some ((⟨b, n, true⟩, .slice a0 j0 c0) : PV) := by rw [List.getElem?_set, if_pos rfl, if_pos hi]
    have hset1 := flat_set1 frC_len (y := ((⟨b, n, true⟩, r) : PV)) (u := r) hx' (j := 5) (by omega) rfl
    rw [List.setIfInBounds_toArray, ← hset1, List.set_set] at hw6
    have hf36 : Fm (fun y => y = fb) w3 w6 := (hf4.trans hf5 (fun _ _ e => e) (fun _ _ e => e.elim)).trans hf6 (fun _ _ e => e) (fun _ _ e => e)
    have hF6 : Fm (SY Xl Xp db g m) w w6 := hF3.trans hf36 (fun _ _ e => e) (fun y _ e => hfbY y e)
    have z3 := hF3.size; have z4 := hf4.size; have z5 := hf5.size
    have hlt3 := h3.lt
    have hfb3 := hlt3 fb (hfbY fb rfl)
    have hrn : ∀ k, r.ownBlock = some k → ¬ SY Xl Xp db g m k := fun k hk e => by
      have := hlt3 k e
      have := (hrl k hk).1
      omega
    have ho6 : w6.ownsRow w4.heap.size 9 1 r b.items.length (b.items.map stv) := own_keep ho5 hf6 (fun k hk _ _ e => by omega)
    have hheld : HeldP w6 (fun y => Q y ∨ r.ownBlock = some y) r b := HeldP.of_own (b := w4.heap.size) ⟨⟨_, rfl, ho6⟩, hb4.small, hb4.ins⟩ (fun y hy => .inr hy)
    have h6 := h3.lay (x := (⟨b, n, true⟩, r)) hf36 (fun y e => .inl e) hw6 hheld (fun y e => .inl e) (fun y e => by
      rcases e with e | e
      · exact .inl e
      · exact .inr ⟨hrn y e, (own_lt ho6 y e).2⟩) (.inr ⟨hrange.1, by rw [hpgs]; exact hrange.2⟩)
    have hXp : ∀ y, (Xp y ∨ (Q y ∨ r.ownBlock = some y)) → Xp y ∨ w.heap.size ≤ y := fun y e => by
      rcases e with e | e | e
      · exact .inl e
      · exact .inl (h3.hP.xs.2.2.2 y e)
      · have := (hrl y e).1
        exact .inr (by omega)
    have hown : s1.own i n b = ⟨{ s1.p.lay i ⟨b, n, true⟩ with owed := bif (getD s1.p.owed n).isNone then setD s1.p.owed n b.lsn else s1.p.owed }, s1.l, s1.d⟩ := rfl
    have hw16 := hf6.heap (hf5.heap hw14 (fun e => e)) (fun e => hfbx e.symm)
    have c06 : w6.cell? ⟨x1, 0, none⟩ = some (iv b.lsn) := by rw [cell_at hw16]; rfl
    refine Jn_at (fun vs w' => vs = [] ∧ SI w' Xl (fun y => Xp y ∨ (Q y ∨ r.ownBlock = some y)) (fun y => Q y ∨ r.ownBlock = some y) pb lb db g m fb ob (F1.set i (⟨b, n, true⟩, r)) (s1.own i n b) ∧ Fm (SY Xl Xp db g m) w w') ?_ ?_
    · rintro _ w7 ⟨rfl, h7, hF7⟩ _
      exact ⟨rfl, (by trivial), ⟨_, _, _, h7, hXp⟩, hF7⟩
    intro jj hjj
    refine (powes_spec h6.hP n).mono ?_
    rintro _ w6 ⟨rfl, rfl⟩
    have hpo : (s1.lay i ⟨b, n, true⟩).p.owed = s1.p.owed := rfl
    rw [hpo]
    cases hq : (getD s1.p.owed n).isNone with
    | false =>
      simp only [RS0, RS1, RS2, RS3, RS4, RS5, Bool.not_false, Bool.not_true]
      refine hjj _ _ ⟨rfl, ?_, hF6⟩
      rw [hown, hq, cond_false]
      exact h6
    | true =>
      have hfd := Fm.drew (fun _ => False) w6
      have h7 := h6.keep0 hfd
      have hF7 := SY_trans hF6 (SY_of hfd)
      simp only [RS0, RS1, RS2, RS3, RS4, RS5, Bool.not_false, Bool.not_true, h6.hP.c5, c06, true_and]
      obtain ⟨w8, hr8, hm8, hf8, hs8⟩ := update_run K146 h7.hP.mp n b.lsn
      refine RunU_ok hr8 ?_
      have hobX := h7.hP.xs.2.2.1
      have hne : ∀ y, (Xp y ∨ (Q y ∨ r.ownBlock = some y)) → y ≠ ob → ¬ y = ob := fun y _ e => e
      refine hjj _ _ ⟨rfl, ?_, hF7.trans hf8 (fun _ _ e => e) (by rintro y _ rfl; exact .inr (.inl h3.hP.xs.2.2.1))⟩
      rw [hown, hq, cond_true]
      refine ⟨h7.hL.keep hf8 (by rintro y hy rfl; exact h7.lp _ hy hobX), h7.hD.keep hf8 (by rintro rfl; exact h7.pd.1 hobX) (by rintro rfl; exact h7.pd.2.1 hobX) (by rintro rfl; exact h7.pd.2.2 hobX), ⟨hf8.heap h7.hP.st h7.hP.po, hf8.heap h7.hP.fr h7.hP.fo, hm8, h7.hP.fs, fun x hx => (h7.hP.it x hx).keep hf8 (by rintro y hy rfl; exact h7.hP.qs.2.2 hy), h7.hP.xs, h7.hP.qs, fun y hy => Nat.lt_of_lt_of_le (h7.hP.lt y hy) hf8.size⟩, h7.wf.of_fr rfl rfl rfl, h7.lp, h7.ld, h7.pd⟩
  intro jj hjj
  have hF2' : Fm (SY Xl Xp db g m) w w2 := SY_of hF2
  cases hh : s.p.hold n with
  | some i =>
    rw [hh] at hset
    obtain ⟨f, hf, _⟩ := Pl.hold_some hh
    have hil := (List.getElem?_eq_some_iff.1 hf).1
    rw [← h.hP.len] at hil
    simp only [holdV]
    simp only [RS0, RS1, RS2, RS3, RS4, RS5]
    exact hjj _ _ ⟨i, s, F, rfl, hil, h2, rfl, hF2', hw2, hset⟩
  | none =>
    rw [hh] at hset
    simp only at hset
    simp only [holdV]
    simp only [RS0, RS1, RS2, RS3, RS4, RS5]
    refine (ptake_spec h2 pick).mono ?_
    rintro _ w3 ⟨F3, h3, hF3, hcase⟩
    have hF3' := SY_trans hF2' hF3
    rcases hcase with ⟨q1, rfl⟩ | ⟨q1, rfl, q2⟩
    · rw [decide_eq_false q1, cond_false] at hset
      simp only [RS0, RS1, RS2, RS3, RS4, RS5, bne_dec, decide_eq_false q1]
      exact same h3 hF3' hset
    · rw [q1, decide_eq_true rfl, cond_true] at hset
      simp only [RS0, RS1, RS2, RS3, RS4, RS5, bne_dec, decide_true]
      exact hjj _ _ ⟨_, _, F3, rfl, q2, h3, (take_len s pick).1, hF3', hF3.heap hw2 hnx, hset⟩
theorem pwrite_spec (h : SI w Xl Xp Q pb lb db g m fb ob F s) (n : Int) : Cl Tryz.prog 37 [pv pb, iv n] w fun v w' => v = iv (s.write n).2 ∧ (∃ F', SI w' Xl Xp Q pb lb db g m fb ob F' (s.write n).1) ∧ Fm (SY Xl Xp db g m) w w' := by
  have hfl := h.flen
  unfold PS.write
  refine c37 ?_; unfold T37
  refine (pknown_spec h.hP n).mono ?_
  rintro _ w1 ⟨rfl, rfl⟩
  simp only [RS0, RS1, RS2, RS3, RS4, RS5, bne_dec]
  cases hk : decide (s.p.known n = 0) with
  | false =>
    simp only [RS0, RS1, RS2, RS3, RS4, RS5, cond_false]
    exact ⟨(by trivial), ⟨F, h⟩, Fm.refl _ _⟩
  | true =>
    simp only [RS0, RS1, RS2, RS3, RS4, RS5, cond_true]
    refine (pholds_spec h.hP hfl.2 n).mono ?_
    rintro _ w1 ⟨rfl, rfl⟩
    cases hh : s.p.hold n with
    | none =>
      simp only [holdV]
      simp only [RS0, RS1, RS2, RS3, RS4, RS5]
      exact ⟨(by trivial), ⟨F, h⟩, Fm.refl _ _⟩
    | some i =>
      obtain ⟨f, hf, _⟩ := Pl.hold_some hh
      rw [← h.hP.fs, List.getElem?_map, Option.map_eq_some_iff] at hf
      obtain ⟨x, hx, rfl⟩ := hf
      simp only [holdV, (h.hP.frg hx).2]
      simp only [RS0, RS1, RS2, RS3, RS4, RS5, h.hP.f7 hx]
      cases hc : x.1.chg with
      | false =>
        simp only [RS0, RS1, RS2, RS3, RS4, RS5, cond_false]
        exact ⟨(by trivial), ⟨F, h⟩, Fm.refl _ _⟩
      | true =>
        simp only [RS0, RS1, RS2, RS3, RS4, RS5, cond_true]
        refine (pwrite1_spec h hx).mono ?_
        rintro _ w3 ⟨rfl, h3, hF3⟩
        exact ⟨(by trivial), h3, hF3⟩
end
end Go.Proofs.YthbngnlmgplijaaGreatDoor

namespace Go.Proofs.YthbngnlmgplijaaGreatDoor
open Go.Al Go.Proofs
set_option linter.unusedVariables false
set_option linter.unusedSimpArgs false
set_option linter.unusedSectionVars false
set_option maxRecDepth 100000

def pfz : Pf := ⟨pg0, 0, false⟩
theorem frz_get : ∀ k, k < 8 → (frC (pfz, nlv))[k]? = some ((frC (pfz, nlv)).toArray[k]!) := by
  intro k hk
  match k, hk with
  | 0, _ => rfl
  | 1, _ => rfl
  | 2, _ => rfl
  | 3, _ => rfl
  | 4, _ => rfl
  | 5, _ => rfl
  | 6, _ => rfl
  | 7, _ => rfl
theorem made_frames (n : Nat) : madeCells (frC (pfz, nlv)).toArray (n * 8) = ((List.replicate n (pfz, nlv)).flatMap frC).toArray := by
  apply Array.ext'
  apply List.ext_getElem?
  intro j
  have hsz : (frC (pfz, nlv)).toArray.size = 8 := rfl
  simp only [madeCells, Array.toList_map, Array.toList_range, List.getElem?_map, hsz]
  by_cases hj : j < n * 8
  · rw [List.getElem?_range hj]
    have h1 : (List.replicate n (pfz, nlv))[j / 8]? = some (pfz, nlv) := by rw [List.getElem?_replicate, if_pos (by omega)]
    have h2 := flat_get frC_len h1 (j := j % 8) (by omega)
    have h3 : j / 8 * 8 + j % 8 = j := by omega
    rw [h3] at h2
    rw [h2, frz_get _ (by omega)]
    rfl
  · have hl := flat_len frC_len (List.replicate n (pfz, nlv))
    rw [List.length_replicate] at hl
    rw [List.getElem?_eq_none (l := List.range (n * 8)) (by rw [List.length_range]; omega), List.getElem?_eq_none (by rw [hl]; omega)]
    rfl
theorem made143 (w : World) (n : Nat) (h : n ≤ 100000) : (Instr.makeSlice 145 (iv n) (iv n)).run Tryz.prog w = .ok (.slice (some ⟨w.heap.size, 0, none⟩) n n) (w.alloc (.cells ((List.replicate n (pfz, nlv)).flatMap frC).toArray 143)) := by
  obtain ⟨i, h1, h2, h3, h4⟩ := info_of (P := Tryz.prog) (e := 143) (z := .agg (frC (pfz, nlv)).toArray) (n := 8) (b := 88) (by kernel_rfl)
  have hr := run_make (P := Tryz.prog) w 145 143 i _ Tryz.underlying145 h1 h2 .i64 .i64 n n (by omega) (Int.le_refl _) (by rw [h4]; omega) (by omega)
  rw [hr]
  simp only [Int.toNat_natCast, h3]
  rw [← made_frames]
  rfl
theorem rep_set {α : Type} (a b : α) {i n : Nat} (h : i < n) : (List.replicate i a ++ List.replicate (n - i) b).set i a = List.replicate (i + 1) a ++ List.replicate (n - (i + 1)) b := by
  rw [List.set_append_right _ _ (by rw [List.length_replicate]; exact Nat.le_refl _), List.length_replicate, Nat.sub_self, show n - i = (n - (i + 1)) + 1 from by omega, List.replicate_succ, List.set_cons_zero, List.replicate_succ', List.append_assoc]
  rfl
theorem rep_get {α : Type} (a b : α) {i n : Nat} (h : i < n) : (List.replicate i a ++ List.replicate (n - i) b)[i]? = some b := by
  rw [List.getElem?_append_right (by rw [List.length_replicate]; exact Nat.le_refl _), List.length_replicate, Nat.sub_self, List.getElem?_replicate, if_pos (by omega)]
theorem bld148 (db lb fb ob n : Nat) (a b : Int) (w : World) : (Instr.build 148 #[(0, pv db), (1, pv lb), (2, iv a), (3, iv b), (4, .slice (some ⟨fb, 0, none⟩) n n), (5, .map (some ob))]).run Tryz.prog w = .ok (.agg #[pv db, pv lb, iv a, iv b, .slice (some ⟨fb, 0, none⟩) n n, .map (some ob)]) w := by kernel_rfl
def newBad (d : Dk) (frm pages frames : Int) : Bool := decide (frames < 1) || (decide (1024 < frames) || (decide (pages < 1) || (decide (8192 < pages) || (decide (frm < 0) || decide ((d.cur.length : Int) - 8 * pages < frm)))))
def newP (frm pages frames : Int) : Pl := ⟨frm.toNat, pages.toNat, List.replicate frames.toNat pf0, []⟩
set_option maxHeartbeats 2000000 in
theorem pnew_spec {w : World} {b g m : Nat} {d : Dk} (h : DAt w b g m d) (lb : Nat) (frm pages frames : Int) (hi : In frm) : Cl Tryz.prog 36 [pv b, pv lb, iv frm, iv pages, iv frames] w fun v w' => Fm (fun _ => False) w w' ∧
    ((newBad d frm pages frames = true ∧ v = .tuple #[.pointer none, iv 1]) ∨ (newBad d frm pages frames = false ∧ ∃ pb fb ob X F, v = .tuple #[pv pb, iv 0] ∧ PIn w' X (fun _ => False) pb lb b fb ob F (newP frm pages frames) ∧ (newP frm pages frames).Wf ∧ ∀ y, X y → w.heap.size ≤ y)) := by
  have hn := h.wf.n1
  unfold newBad
  refine c36 ?_; unfold T36
  cases h1 : decide (frames < 1) with
  | true =>
    simp only [RS0, RS1, RS2, RS3, RS4, RS5, h1, Bool.true_or]
    exact ⟨Fm.refl _ _, .inl ⟨(by trivial), (by trivial)⟩⟩
  | false =>
  cases h2 : decide (1024 < frames) with
  | true =>
    simp only [RS0, RS1, RS2, RS3, RS4, RS5, h1, h2, Bool.true_or, Bool.false_or]
    exact ⟨Fm.refl _ _, .inl ⟨(by trivial), (by trivial)⟩⟩
  | false =>
  cases h3 : decide (pages < 1) with
  | true =>
    simp only [RS0, RS1, RS2, RS3, RS4, RS5, h1, h2, h3, Bool.true_or, Bool.false_or]
    exact ⟨Fm.refl _ _, .inl ⟨(by trivial), (by trivial)⟩⟩
  | false =>
  cases h4 : decide (8192 < pages) with
  | true =>
    simp only [RS0, RS1, RS2, RS3, RS4, RS5, h1, h2, h3, h4, Bool.true_or, Bool.false_or]
    exact ⟨Fm.refl _ _, .inl ⟨(by trivial), (by trivial)⟩⟩
  | false =>
  cases h5 : decide (frm < 0) with
  | true =>
    simp only [RS0, RS1, RS2, RS3, RS4, RS5, h1, h2, h3, h4, h5, Bool.true_or, Bool.false_or]
    exact ⟨Fm.refl _ _, .inl ⟨(by trivial), (by trivial)⟩⟩
  | false =>
  simp only [RS0, RS1, RS2, RS3, RS4, RS5, h1, h2, h3, h4, h5, Bool.false_or]
  rw [decide_eq_false_iff_not] at h1 h2 h3 h4 h5
  refine (dsize_spec h).mono ?_
  rintro _ w ⟨rfl, rfl⟩
  have e1 : IntKind.i64.wrap (8 * pages) = 8 * pages := by rw [wrap_id]; omega
  have e2 : IntKind.i64.wrap ((d.cur.length : Int) - 8 * pages) = (d.cur.length : Int) - 8 * pages := by rw [wrap_id]; omega
  simp only [RS0, RS1, RS2, RS3, RS4, RS5, e1, e2]
  cases h6 : decide ((d.cur.length : Int) - 8 * pages < frm) with
  | true =>
    simp only [RS0, RS1, RS2, RS3, RS4, RS5, h6]
    exact ⟨Fm.refl _ _, .inl ⟨(by trivial), (by trivial)⟩⟩
  | false =>
  simp only [RS0, RS1, RS2, RS3, RS4, RS5, h6]
  rw [decide_eq_false_iff_not] at h6
  obtain ⟨n, rfl⟩ := Int.eq_ofNat_of_zero_le (show 0 ≤ frames by omega)
  obtain ⟨pg, rfl⟩ := Int.eq_ofNat_of_zero_le (show 0 ≤ pages by omega)
  obtain ⟨fr, rfl⟩ := Int.eq_ofNat_of_zero_le (show 0 ≤ frm by omega)
  have hwf : (newP (fr : Int) (pg : Int) (n : Int)).Wf := ⟨by show 1 ≤ (List.replicate (Int.toNat (n : Int)) pf0).length ∧ (List.replicate (Int.toNat (n : Int)) pf0).length ≤ 1024; rw [List.length_replicate]; omega, by show 1 ≤ Int.toNat (pg : Int) ∧ Int.toNat (fr : Int) + 8 * Int.toNat (pg : Int) ≤ 65536; omega, fun f hf => .inl (by rw [List.eq_of_mem_replicate hf]; rfl)⟩
  refine RunS_ok (made143 _ n (by omega)) ?_
  have hf1 := Fm.alloc (fun _ => False) w (.cells ((List.replicate n (pfz, nlv)).flatMap frC).toArray 143)
  have hn1 := alloc_new w (.cells ((List.replicate n (pfz, nlv)).flatMap frC).toArray 143)
  have hs1 := alloc_size w (.cells ((List.replicate n (pfz, nlv)).flatMap frC).toArray 143)
  generalize w.alloc (.cells ((List.replicate n (pfz, nlv)).flatMap frC).toArray 143) = w1 at hf1 hn1 hs1
  refine RunS_ok (makeMap_run _ _) ?_
  have hM := MapAt.empty w1 iv iv
  have hf2 := Fm.alloc (fun _ => False) w1 (.map #[] 0)
  have hs2 := alloc_size w1 (.map #[] 0)
  generalize w1.alloc (.map #[] 0) = w2 at hM hf2 hs2
  refine RunS_ok (bld148 b lb w.heap.size w1.heap.size n _ _ _) ?_
  refine New_any ?_
  intro pb w3 hpb hs3 hw3 hf3
  have hM3 := hM.keep hf3 (fun e => e)
  have hfr3 := hf3.heap (hf2.heap hn1 (fun e => e)) (fun e => e)
  have hF3 := Fmf hf1 (Fmf hf2 hf3)
  have c4 : w3.cell? ⟨pb, 4, none⟩ = some (.slice (some ⟨w.heap.size, 0, none⟩) n n) := by rw [cell_at hw3]; rfl
  simp only [RS0, RS1, RS2, RS3, RS4, RS5, c4]
  refine ⟨fun vs w' => ∃ i : Nat, vs = [iv (i : Int)] ∧ i ≤ n ∧ w'.heap[w.heap.size]? = some (.cells ((List.replicate i (pf0, nlv) ++ List.replicate (n - i) (pfz, nlv)).flatMap frC).toArray 143) ∧ Fm (fun y => y = w.heap.size) w3 w', fun vs _ => (n - nth vs 0).toNat, ⟨0, rfl, by omega, by rw [Nat.sub_zero]; exact hfr3, Fm.refl _ _⟩, ?_⟩
  rintro _ w4 ivv ⟨i, hvs, hi, hfr4, hf4⟩
  cases hvs
  have c4' : w4.cell? ⟨pb, 4, none⟩ = some (.slice (some ⟨w.heap.size, 0, none⟩) n n) := hf4.cell' c4 (show ¬ pb = _ by omega)
  by_cases hl : i < n
  · have d1 : decide ((i : Int) < (n : Int)) = true := by rw [decide_eq_true_eq]; omega
    have ei : IntKind.i64.wrap ((i : Int) + 1) = ((i + 1 : Nat) : Int) := by rw [wrap_id] <;> omega
    simp only [RS0, RS1, RS2, RS3, RS4, RS5, d1, c4', PIn.ix i hl w.heap.size]
    refine St_blk hfr4 (j := i * 8 + 6) (by rw [List.size_toArray, flat_len frC_len, List.length_append, List.length_replicate, List.length_replicate]; omega) rfl ?_
    intro w5 hw5 hs5 hf5
    have hset := flat_set1 frC_len (y := (pf0, nlv)) (u := iv (-1)) (rep_get (pf0, nlv) (pfz, nlv) hl) (j := 6) (by omega) rfl
    rw [List.setIfInBounds_toArray, ← hset, rep_set _ _ hl] at hw5
    simp only [RS0, RS1, RS2, RS3, RS4, RS5, ei]
    exact ⟨⟨i + 1, rfl, by omega, hw5, hf4.trans hf5 (fun _ _ e => e) (fun _ _ e => e)⟩, by simp only [nth_0]; omega⟩
  · have hie : i = n := by omega
    subst hie
    have d1 : decide ((i : Int) < (i : Int)) = false := by simp
    simp only [RS0, RS1, RS2, RS3, RS4, RS5, d1]
    rw [Nat.sub_self, List.replicate_zero, List.append_nil] at hfr4
    refine ⟨Fm.own hF3 hf4 (by rintro y rfl; exact Nat.le_refl _), .inr ⟨(by trivial), pb, w.heap.size, w1.heap.size, fun y => y = pb ∨ y = w.heap.size ∨ y = w1.heap.size, List.replicate i (pf0, nlv), (by trivial), ⟨?_, hfr4, hM3.keep hf4 (show ¬ w1.heap.size = _ by omega), ?_, ?_, ⟨.inl rfl, .inr (.inl rfl), .inr (.inr rfl), fun y e => e.elim⟩, ⟨fun e => e, fun e => e, fun e => e⟩, ?_⟩, hwf, ?_⟩⟩
    · rw [List.length_replicate]
      exact hf4.heap hw3 (show ¬ pb = _ by omega)
    · show (List.replicate i (pf0, nlv)).map (·.1) = List.replicate (Int.toNat (i : Int)) pf0
      rw [List.map_replicate, Int.toNat_natCast]
    · intro x hx
      rw [List.eq_of_mem_replicate hx]
      exact HeldP.zero _ _
    · have := hf4.size
      rintro y (rfl | rfl | rfl) <;> omega
    · rintro y (rfl | rfl | rfl) <;> omega
end Go.Proofs.YthbngnlmgplijaaGreatDoor

namespace Go.Proofs.YthbngnlmgplijaaGreatDoor
open Go.Al Go.Proofs
set_option linter.unusedVariables false
set_option linter.unusedSimpArgs false
set_option linter.unusedSectionVars false
set_option maxRecDepth 100000

structure Sys (w0 w : World) (Y : Nat → Prop) (pb lb db : Nat) (s : PS) : Prop where
  ex : ∃ Xl Xp Q g m fb ob F, SI w Xl Xp Q pb lb db g m fb ob F s ∧ ∀ y, SY Xl Xp db g m y → Y y
  ge : ∀ y, Y y → w0.heap.size ≤ y ∧ y < w.heap.size
  fm : Fm (fun _ => False) w0 w
def Gr (w : World) (Y Y' : Nat → Prop) : Prop := ∀ y, Y' y → Y y ∨ w.heap.size ≤ y
section
variable {w0 w w' : World} {Y S : Nat → Prop} {pb lb db : Nat} {s : PS}
theorem Sys.keep (h : Sys w0 w Y pb lb db s) (hf : Fm S w w') (hS : ∀ y, Y y → ¬ S y) (h0 : ∀ y, S y → w0.heap.size ≤ y) : Sys w0 w' Y pb lb db s := by
  obtain ⟨Xl, Xp, Q, g, m, fb, ob, F, h1, h2⟩ := h.ex
  exact ⟨⟨Xl, Xp, Q, g, m, fb, ob, F, h1.keep hf (fun y hy => hS y (h2 y hy)), h2⟩, fun y hy => ⟨(h.ge y hy).1, Nat.lt_of_lt_of_le (h.ge y hy).2 hf.size⟩, Fm.own h.fm hf h0⟩
theorem Sys.keep0 (h : Sys w0 w Y pb lb db s) (hf : Fm (fun _ => False) w w') : Sys w0 w' Y pb lb db s := h.keep hf (fun _ _ e => e) (fun _ e => e.elim)
theorem Sys.step (h : Sys w0 w Y pb lb db s) {s' : PS} {Xl Xp Q : Nat → Prop} {g m fb ob : Nat} {F F' : List PV} {Xl' Xp' Q' : Nat → Prop} (h1 : SI w Xl Xp Q pb lb db g m fb ob F s) (h2 : ∀ y, SY Xl Xp db g m y → Y y) (h3 : SI w' Xl' Xp' Q' pb lb db g m fb ob F' s')
    (hl : ∀ y, Xl' y → Xl y ∨ w.heap.size ≤ y) (hp : ∀ y, Xp' y → Xp y ∨ w.heap.size ≤ y) (hf : Fm (SY Xl Xp db g m) w w') : (∃ Y', Sys w0 w' Y' pb lb db s' ∧ Gr w Y Y') ∧ Fm Y w w' := by
  have hF : Fm Y w w' := hf.mono (fun y _ e => h2 y e)
  have hz := hf.size
  have hz0 := h.fm.size
  have hG : ∀ y, SY Xl' Xp' db g m y → Y y ∨ w.heap.size ≤ y := by
    rintro y (hy | hy | hy)
    · rcases hl y hy with e | e
      · exact .inl (h2 y (.inl e))
      · exact .inr e
    · rcases hp y hy with e | e
      · exact .inl (h2 y (.inr (.inl e)))
      · exact .inr e
    · exact .inl (h2 y (.inr (.inr hy)))
  refine ⟨⟨SY Xl' Xp' db g m, ⟨⟨Xl', Xp', Q', g, m, fb, ob, F', h3, fun _ e => e⟩, fun y hy => ⟨?_, h3.lt y hy⟩, Fm.own h.fm hF (fun y hy => (h.ge y hy).1)⟩, hG⟩, hF⟩
  rcases hG y hy with e | e
  · exact (h.ge y e).1
  · omega
theorem Sys.fetch (h : Sys w0 w Y pb lb db s) (n pick : Int) : Cl Tryz.prog 33 [pv pb, iv n, iv pick] w fun v w' => ∃ u, v = .tuple #[.agg (pcs (s.fetch n pick).2.1 u), iv (s.fetch n pick).2.2] ∧ PgOw w' w.heap.size (pcs (s.fetch n pick).2.1 u) (s.fetch n pick).2.1 ∧
    (∃ Y', Sys w0 w' Y' pb lb db (s.fetch n pick).1 ∧ Gr w Y Y' ∧ ∀ k, u.ownBlock = some k → ¬ Y' k) ∧ Fm Y w w' := by
  obtain ⟨Xl, Xp, Q, g, m, fb, ob, F, h1, h2⟩ := h.ex
  refine (pfetch_spec h1 n pick).mono ?_
  rintro v w' ⟨u, rfl, ho, ⟨Xp', Q', F', h3, hp, hu⟩, hf⟩
  obtain ⟨⟨Y', hY, hG⟩, hF⟩ := h.step h1 h2 h3 (fun y e => .inl e) hp hf
  have hul : ∀ k, u.ownBlock = some k → w.heap.size ≤ k := by
    obtain ⟨u', e, hou⟩ := ho.ex
    rw [← pcs_inj e] at hou
    exact fun k hk => (own_lt hou k hk).1
  refine ⟨u, rfl, ho, ⟨SY Xl Xp' db g m, ⟨⟨Xl, Xp', Q', g, m, fb, ob, F', h3, fun _ e => e⟩, fun y hy => ⟨?_, h3.lt y hy⟩, Fm.own h.fm hF (fun y hy => (h.ge y hy).1)⟩, fun y hy => ?_, fun k hk e => ?_⟩, hF⟩
  · have hz0 := h.fm.size
    rcases hy with hy | hy | hy
    · exact (h.ge y (h2 y (.inl hy))).1
    · rcases hp y hy with e | e
      · exact (h.ge y (h2 y (.inr (.inl e)))).1
      · omega
    · exact (h.ge y (h2 y (.inr (.inr hy)))).1
  · rcases hy with hy | hy | hy
    · exact .inl (h2 y (.inl hy))
    · rcases hp y hy with e | e
      · exact .inl (h2 y (.inr (.inl e)))
      · exact .inr e
    · exact .inl (h2 y (.inr (.inr hy)))
  · have := hul k hk
    rcases e with e | e | e
    · have := h1.lt k (.inl e); omega
    · exact hu k hk e
    · have := h1.lt k (.inr (.inr e)); omega
theorem Sys.set (h : Sys w0 w Y pb lb db s) {cs : Array Value} {b : Pg} (hb : ∀ w', Fm Y w w' → PgAs w' cs b) (n pick : Int) : Cl Tryz.prog 32 [pv pb, iv n, .agg cs, iv pick] w fun v w' => v = iv (s.set n b pick).2 ∧ (∃ Y', Sys w0 w' Y' pb lb db (s.set n b pick).1 ∧ Gr w Y Y') ∧ Fm Y w w' := by
  obtain ⟨Xl, Xp, Q, g, m, fb, ob, F, h1, h2⟩ := h.ex
  refine (pset_spec h1 (fun w' hf => hb w' (hf.mono (fun y _ e => h2 y e))) n pick).mono ?_
  rintro v w' ⟨rfl, ⟨Xp', Q', F', h3, hp⟩, hf⟩
  exact ⟨rfl, h.step h1 h2 h3 (fun y e => .inl e) hp hf⟩
theorem Sys.write (h : Sys w0 w Y pb lb db s) (n : Int) : Cl Tryz.prog 37 [pv pb, iv n] w fun v w' => v = iv (s.write n).2 ∧ (∃ Y', Sys w0 w' Y' pb lb db (s.write n).1 ∧ Gr w Y Y') ∧ Fm Y w w' := by
  obtain ⟨Xl, Xp, Q, g, m, fb, ob, F, h1, h2⟩ := h.ex
  refine (pwrite_spec h1 n).mono ?_
  rintro v w' ⟨rfl, ⟨F', h3⟩, hf⟩
  exact ⟨rfl, h.step h1 h2 h3 (fun y e => .inl e) (fun y e => .inl e) hf⟩
theorem Sys.synced (h : Sys w0 w Y pb lb db s) : Cl Tryz.prog 39 [pv pb] w fun v w' => (∃ Y', Sys w0 w' Y' pb lb db ⟨s.p.synced, s.l, s.d⟩ ∧ Gr w Y Y') ∧ Fm Y w w' := by
  obtain ⟨Xl, Xp, Q, g, m, fb, ob, F, h1, h2⟩ := h.ex
  refine h1.synced.mono ?_
  rintro v w' ⟨h3, hf⟩
  exact h.step h1 h2 h3 (fun y e => .inl e) (fun y e => .inl e) hf
theorem Sys.dsync (h : Sys w0 w Y pb lb db s) : Cl Tryz.prog 38 [pv db] w fun v w' => v = iv s.d.sync.2 ∧ (∃ Y', Sys w0 w' Y' pb lb db ⟨s.p, s.l, s.d.sync.1⟩ ∧ Gr w Y Y') ∧ Fm Y w w' := by
  obtain ⟨Xl, Xp, Q, g, m, fb, ob, F, h1, h2⟩ := h.ex
  refine (dsync_spec h1.hD).mono ?_
  rintro v w' ⟨rfl, hd, hf⟩
  obtain ⟨h3, hf3⟩ := h1.disk hd hf
  exact ⟨rfl, h.step h1 h2 h3 (fun y e => .inl e) (fun y e => .inl e) hf3⟩
theorem Sys.append (h : Sys w0 w Y pb lb db s) {cs : Array Value} {r : Rc} (hr : ∀ w', Fm Y w w' → RcAs w' cs r) : Cl Tryz.prog 21 [pv lb, .agg cs] w fun v w' => v = .tuple #[iv (s.l.append r).2.1, iv (s.l.append r).2.2] ∧ (∃ Y', Sys w0 w' Y' pb lb db ⟨s.p, (s.l.append r).1, s.d⟩ ∧ Gr w Y Y') ∧ Fm Y w w' := by
  obtain ⟨Xl, Xp, Q, g, m, fb, ob, F, h1, h2⟩ := h.ex
  refine (wappend_spec h1.hL (fun w' hf => hr w' (hf.mono (fun y _ e => h2 y (.inl e))))).mono ?_
  rintro v w' ⟨rfl, Xl', hL, hl, hf⟩
  have hdl := h1.hD.lt
  have h3 : SI w' Xl' Xp Q pb lb db g m fb ob F ⟨s.p, (s.l.append r).1, s.d⟩ := by
    refine ⟨hL, h1.hD.keep hf h1.ld.1 h1.ld.2.1 h1.ld.2.2, h1.hP.keep hf (fun y hy e => h1.lp y e hy), h1.wf, fun y hy e => ?_, ⟨fun e => ?_, fun e => ?_, fun e => ?_⟩, h1.pd⟩
    · rcases hl y hy with q | q
      · exact h1.lp y q e
      · have := h1.hP.lt y e; omega
    · rcases hl _ e with q | q
      · exact h1.ld.1 q
      · omega
    · rcases hl _ e with q | q
      · exact h1.ld.2.1 q
      · omega
    · rcases hl _ e with q | q
      · exact h1.ld.2.2 q
      · omega
  exact ⟨rfl, h.step h1 h2 h3 hl (fun y e => .inl e) (hf.mono (fun y _ e => .inl e))⟩
theorem Sys.dread (h : Sys w0 w Y pb lb db s) (a k : Int) : Cl Tryz.prog 40 [pv db, iv a, iv k] w fun v w' => v = .tuple #[stv (s.d.read a k).1, iv (s.d.read a k).2] ∧ w' = w := by
  obtain ⟨Xl, Xp, Q, g, m, fb, ob, F, h1, h2⟩ := h.ex
  exact dread_spec h1.hD a k
theorem Sys.owes (h : Sys w0 w Y pb lb db s) (n : Int) : Cl Tryz.prog 43 [pv pb, iv n] w fun v w' => v = .bool (!(getD s.p.owed n).isNone) ∧ w' = w := by
  obtain ⟨Xl, Xp, Q, g, m, fb, ob, F, h1, h2⟩ := h.ex
  exact powes_spec h1.hP n
theorem Sys.flushed (h : Sys w0 w Y pb lb db s) : Cl Tryz.prog 27 [pv lb] w fun v w' => v = iv (s.l.last : Int) ∧ Fm (fun _ => False) w w' := by
  obtain ⟨Xl, Xp, Q, g, m, fb, ob, F, h1, h2⟩ := h.ex
  exact wflushed_spec h1.hL
theorem Sys.tail (h : Sys w0 w Y pb lb db s) : Cl Tryz.prog 20 [pv lb] w fun v w' => v = iv (s.l.tail : Int) ∧ Fm (fun _ => False) w w' := by
  obtain ⟨Xl, Xp, Q, g, m, fb, ob, F, h1, h2⟩ := h.ex
  exact wtail_spec h1.hL
theorem Sys.lwf (h : Sys w0 w Y pb lb db s) : s.l.Wf := by
  obtain ⟨Xl, Xp, Q, g, m, fb, ob, F, h1, h2⟩ := h.ex
  exact h1.hL.wf
theorem Sys.dwf (h : Sys w0 w Y pb lb db s) : s.d.Wf := by
  obtain ⟨Xl, Xp, Q, g, m, fb, ob, F, h1, h2⟩ := h.ex
  exact h1.hD.wf
/-- One is made. -/
theorem Sys.made {w1 w2 w3 : World} {b g m : Nat} {d : Dk} {L : Lg} {p : Pl} {X Xp : Nat → Prop} {fb ob : Nat} {F : List PV} (hd : DAt w2 b g m d) (hb : (w0.heap.size ≤ b ∧ w0.heap.size ≤ g ∧ w0.heap.size ≤ m) ∧ b < w1.heap.size ∧ g < w1.heap.size ∧ m < w1.heap.size)
    (hL : LAt w2 X lb b L) (hX : ∀ y, X y → w1.heap.size ≤ y) (hz : w0.heap.size ≤ w1.heap.size) (hf : Fm (fun _ => False) w2 w3) (hP : PIn w3 Xp (fun _ => False) pb lb b fb ob F p) (hXp : ∀ y, Xp y → w2.heap.size ≤ y) (hwf : p.Wf) (hF : Fm (fun _ => False) w0 w3) :
    ∃ Y, Sys w0 w3 Y pb lb b ⟨p, L, d⟩ := by
  have hdl := hd.lt
  have hLl := hL.lt
  have h1 : SI w3 X Xp (fun _ => False) pb lb b g m fb ob F ⟨p, L, d⟩ := ⟨hL.keep0 hf, hd.keep0 hf, hP, hwf, fun y h1 h2 => by have := hLl y h1; have := hXp y h2; omega, ⟨fun e => by have := hX _ e; omega, fun e => by have := hX _ e; omega, fun e => by have := hX _ e; omega⟩, ⟨fun e => by have := hXp _ e; omega, fun e => by have := hXp _ e; omega, fun e => by have := hXp _ e; omega⟩⟩
  refine ⟨SY X Xp b g m, ⟨X, Xp, fun _ => False, g, m, fb, ob, F, h1, fun _ e => e⟩, fun y hy => ⟨?_, h1.lt y hy⟩, hF⟩
  have z2 := hF.size
  rcases hy with hy | hy | rfl | rfl | rfl
  · have := hX y hy; omega
  · have := hXp y hy
    have hb2 := hLl _ hL.lb
    have := hX _ hL.lb
    omega
  · exact hb.1.1
  · exact hb.1.2.1
  · exact hb.1.2.2
end

/-! ### A record that only takes a place -/
def nt : Rc := ⟨0, 0, 0, 2, 1, 0, 0, 0, 0, 0, [], [], [], [], [], []⟩
theorem bldNt (w : World) : (Instr.build 28 #[(3, .int .u8 2), (4, iv 1)]).run Tryz.prog w = .ok (.agg (rcs nt nl nl nl nl nl)) w := by kernel_rfl
theorem note_spec (w : World) : Cl Tryz.prog 31 [] w fun v w' => v = .agg (rcs nt nl nl nl nl nl) ∧ Fm (fun _ => False) w w' := by
  refine c31 ?_; unfold T31
  refine New_any ?_
  intro x w1 hx hs1 hw1 hf1
  refine RunS_ok (bldNt _) ?_
  refine St_all hw1 rfl rfl (rcs_one rfl rfl rfl rfl rfl) ?_
  intro w2 hw2 hs2 hf2
  have hret : RetO (resL Tryz.prog (fun j => bif Nat.beq j 0 then pv x else undef) w2 [(ResultVar.cell 0 28)]) w2 (fun v w' => v = .agg (rcs nt nl nl nl nl nl) ∧ Fm (fun _ => False) w w') := by
    simp only [resL, resV_blk (f := fun j => bif Nat.beq j 0 then pv x else undef) (a := 0) rfl agg52 size52 hw2 rfl, RetO, RetV]
    exact ⟨(by trivial), Fm.own hf1 hf2 (by rintro y rfl; omega)⟩
  exact hret
theorem nt_bnd : Bnd nt := ⟨by intro n hn; simp [rNums, nt, prs] at hn; unfold okN; omega, by simp [nt], by simp [nt], by simp [nt], by simp [nt], by simp [nt], by simp [nt], by simp [nt], by simp [nt]⟩
theorem nt_as (w : World) : RcAs w (rcs nt nl nl nl nl nl) nt := by
  have : Rows w 0 nt nl nl nl nl nl := ⟨World.ownsRow_nil _ _ _ _, World.ownsRow_nil _ _ _ _, ⟨[], rfl, World.ownsRow_nil _ _ _ _, by simp⟩, World.ownsRow_nil _ _ _ _, World.ownsRow_nil _ _ _ _⟩
  exact this.asR nt_bnd
theorem nt_lsns : ∀ m ∈ nt.imgs, m.2.lsn ≤ 9223372036854775807 := by intro m hm; cases hm

/-! ### A new one holds nothing -/
theorem sec8_zero {d : Dk} {a : Nat} (h : ∀ j, j < 8 → d.cur[a + j]? = some Dk.zsec) : sec8 d a = zeros 512 := by
  have e : (d.cur.drop a).take 8 = (List.replicate 8 Dk.zsec) := by
    apply List.ext_getElem?
    intro i
    rw [List.getElem?_take, List.getElem?_drop, List.getElem?_replicate]
    by_cases hi : i < 8
    · rw [if_pos hi, if_pos hi, h i hi]
    · rw [if_neg hi, if_neg hi]
  unfold sec8
  rw [e]; decide
theorem fmt_new {N n : Nat} (hN : N ≤ 65536) (hn : 4 ≤ n) (hnN : n ≤ N) : (∀ j, n ≤ j → j < N → (fmtE (Dk.mk0 N) ((0 : Nat) : Int) (n : Int)).1.cur[j]? = some Dk.zsec) ∧ ∀ j, Dk.isC (fmtE (Dk.mk0 N) ((0 : Nat) : Int) (n : Int)).1.chg j = false := by
  have hc := calm_mk0 hN
  have hl := mk0_len N
  have hf : fitsD (Dk.mk0 N) ((0 : Nat) : Int) (n : Int) = true := by
    unfold fitsD
    simp only [Bool.and_eq_true, decide_eq_true_eq]
    omega
  have e1 : ((n : Int) * 64).toNat = n * 64 := by omega
  have hz : (zeros (n * 64)).length = 64 * n := by rw [Lg.zeros_len']; omega
  obtain ⟨h1, h2, h3⟩ := hc.write (a := 0) (s := zeros (n * 64)) (by rw [hz]; omega) (by rw [hz]; omega)
  obtain ⟨g1, g2⟩ := write_calm hc (a := 0) (k := n) hz (by omega)
  obtain ⟨k1, k2, k3⟩ := h2.sync
  obtain ⟨q1, q2, q3, q4, q5⟩ := Dk.sync_calm h2.ar h2.on
  have hE : (fmtE (Dk.mk0 N) ((0 : Nat) : Int) (n : Int)).1 = ((Dk.mk0 N).write ((0 : Nat) : Int) (zeros (n * 64))).1.sync.1 := by
    unfold fmtE
    rw [hf, e1, cond_true]
    simp only [h1, decide_true, cond_true]
  rw [hE]
  refine ⟨fun j hj hjN => ?_, fun j => ?_⟩
  · rw [q2, g1, if_neg (by omega)]
    show (List.replicate N Dk.zsec)[j]? = _
    rw [List.getElem?_replicate, if_pos hjN]
  · have hch : ∀ e : Dk, Lg.Calm e → e.sync.1.chg = List.replicate e.tick.cur.length false := by
      intro e he
      unfold Dk.sync
      rw [he.on]
      simp only [cond_false, he.tick]
      rw [show ({ e with done := IntKind.i64.wrap (e.done + 1) } : Dk).gone = false from he.on]
      rfl
    rw [hch _ h2]; exact Dk.isC_rep _ _
theorem good_new {N n frm pages frames : Nat} (hN : N ≤ 65536) (hn : 4 ≤ n) (hf : n ≤ frm) (hp : frm + 8 * pages ≤ N) (h1 : 1 ≤ frames) : PGood ⟨newP (frm : Int) (pages : Int) (frames : Int), Lg.new 0 n, (fmtE (Dk.mk0 N) ((0 : Nat) : Int) (n : Int)).1⟩ (fun _ => none) := by
  obtain ⟨f1, f2⟩ := fmt_new hN hn (n := n) (N := N) (by omega)
  obtain ⟨g1, g2, g3⟩ := calm_fmt (calm_mk0 hN) (i := 0) (j := n) hn (by rw [mk0_len]; omega)
  rw [mk0_len] at g3
  generalize (fmtE (Dk.mk0 N) ((0 : Nat) : Int) (n : Int)).1 = d at f1 f2 g2 g3
  have hfr : ∀ (i : Nat) (f : Pf), (List.replicate frames pf0)[i]? = some f → f = pf0 := by
    intro i f hi
    exact List.eq_of_mem_replicate (List.mem_of_getElem? hi)
  have efr : (newP (frm : Int) (pages : Int) (frames : Int)).fr = List.replicate frames pf0 := by unfold newP; simp
  have epg : (newP (frm : Int) (pages : Int) (frames : Int)).pages = pages := by unfold newP; simp
  have efm : (newP (frm : Int) (pages : Int) (frames : Int)).frm = frm := by unfold newP; simp
  have hz : ∀ k, k < pages → (page ⟨newP (frm : Int) (pages : Int) (frames : Int), Lg.new 0 n, d⟩ k).2 ≠ 0 := by
    intro k hk
    unfold page
    simp only [efm]
    rw [sec8_zero (fun j hj => f1 _ (by omega) (by omega))]
    exact zeros_page
  refine ⟨Lg.wf_new hn (by omega), g2, ⟨?_, ?_⟩, ?_, ?_, ?_, ?_, ?_, ?_, ?_, ?_, fun _ _ _ j _ => f2 _⟩
  · simp only [efm]; show 0 + n ≤ frm; omega
  · simp only [efm, epg]; omega
  · simp only [efr, List.length_replicate]; exact h1
  · intro i f hi
    simp only [efr] at hi
    rw [hfr i f hi]; exact .inl rfl
  · intro i j f f' k hi _ e _
    simp only [efr] at hi
    rw [hfr i f hi] at e
    exact absurd e (pf0_num k)
  · intro i f k hi e
    simp only [efr] at hi
    rw [hfr i f hi] at e
    exact absurd e (pf0_num k)
  · intro k b e; cases e
  · intro i f k hi e
    simp only [efr] at hi
    rw [hfr i f hi] at e
    exact absurd e (pf0_num k)
  · intro k hk _
    simp only [epg] at hk
    exact ⟨fun b e => (by cases e), fun _ => hz k hk⟩
  · intro k hk e
    simp only [epg] at hk
    exact absurd e (hz k hk)

/-! ### What comes in -/
abbrev OpP := Int × Int × Int × PgT × Unit
def vOpP : Vw Tryz.prog 63 OpP := vStruct Tryz.underlying63 (fvCons rfl 1 (by kernel_rfl) vI (fvCons rfl 1 (by kernel_rfl) vI (fvCons rfl 1 (by kernel_rfl) vI (fvCons rfl 6 (by kernel_rfl) vPage fvNil)))) (by kernel_rfl)
def vOpPs : Vw Tryz.prog 53 (List OpP) := vSlice Tryz.underlying53 (by kernel_rfl) vOpP
def opB (x : OpP) : Pg := pgOf x.2.2.2.1
def opc (x : OpP) (u : Value) : Array Value := #[iv x.1, iv x.2.1, iv x.2.2.1, iv (opB x).lsn, iv (opB x).kind, iv (opB x).level, iv (opB x).right, stv (opB x).high, u]
theorem opP_ld {w : World} {v : Value} {xs : List OpP} (h : SliceAs vOpP w v xs) {i : Nat} {x : OpP} (hx : xs[i]? = some x) :
    ∃ ad u, ixV 9 v (iv (i : Int)) = some (.pointer (some ad)) ∧ cellsV w ad 9 = some (.agg (opc x u)) ∧ PgIn w (pcs (opB x) u) (opB x) ∧ In x.1 ∧ In x.2.1 ∧ In x.2.2.1 := by
  have hc : Tryz.prog.cellsOf 63 = 9 := by kernel_rfl
  have hc61 : Tryz.prog.cellsOf 61 = 6 := by kernel_rfl
  obtain ⟨ad, cs', h1, h2, h3, h4⟩ := h.ld hx hc .i64
  obtain ⟨ask, pg, pick, b, u⟩ := x
  obtain ⟨c0, r0, he, ⟨rfl, g0⟩, c1, r1, rfl, ⟨rfl, g1⟩, c2, r2, rfl, ⟨rfl, g2⟩, c3, r3, rfl, g3, hr⟩ := h2
  cases hr
  simp only at g0 g1 g2
  have hp := page_of (cs := c3.toArray) (by rw [List.toList_toArray]; exact g3)
  obtain ⟨v3, hv3, _⟩ := hp.isA.ex
  have hc3 : c3 = (pcs (pgOf b) v3).toList := by rw [← hv3]
  refine ⟨ad, v3, h1, ?_, ?_, i64_of_wf g0, i64_of_wf g1, i64_of_wf g2⟩
  · rw [h3, he, hc3]; rfl
  · rw [hv3] at hp; exact hp
/-- An operation's block. -/
structure OB (w : World) (x : Nat) (o : OpP) (u : Value) : Prop where
  h : w.heap[x]? = some (.cells (opc o u) 63)
section
variable {w w' : World} {S : Nat → Prop} {x : Nat} {o : OpP} {u : Value}
theorem OB.keep (h : OB w x o u) (hf : Fm S w w') (hs : ¬ S x) : OB w' x o u := ⟨hf.heap h.h hs⟩
theorem OB.c0 (h : OB w x o u) : w.cell? ⟨x, 0, none⟩ = some (iv o.1) := by rw [cell_at h.h]; rfl
theorem OB.c1 (h : OB w x o u) : w.cell? ⟨x, 1, none⟩ = some (iv o.2.1) := by rw [cell_at h.h]; rfl
theorem OB.c2 (h : OB w x o u) : w.cell? ⟨x, 2, none⟩ = some (iv o.2.2.1) := by rw [cell_at h.h]; rfl
theorem OB.body (h : OB w x o u) : cellsV w ⟨x, 3, none⟩ 6 = some (.agg (pcs (opB o) u)) := by
  refine cellsV_of (l := (pcs (opB o) u).toList) rfl (fun j hj => ?_)
  rw [add_none, cell_at h.h]
  match j, hj with
  | 0, _ => rfl
  | 1, _ => rfl
  | 2, _ => rfl
  | 3, _ => rfl
  | 4, _ => rfl
  | 5, _ => rfl
theorem opc_one {o : OpP} {u : Value} (h : u.oneCell' = true) : ∀ z ∈ (opc o u).toList, z.oneCell' = true := by
  intro z hz
  simp [opc] at hz
  rcases hz with rfl | rfl | rfl | rfl | rfl | rfl | rfl | rfl | rfl <;> first | rfl | assumption
end
def atP (b : Pg) (k : Int) : Pg := { b with lsn := k }
theorem pcs_at (b : Pg) (k : Int) (u : Value) : (pcs b u).setIfInBounds 0 (iv k) = pcs (atP b k) u := rfl
theorem PgAs.atP {w : World} {b : Pg} {u : Value} (h : PgAs w (pcs b u) b) {k : Int} (hk : In k) : PgAs w (pcs (atP b k) u) (atP b k) := by
  obtain ⟨v, h1, h2, h3⟩ := h.ex
  obtain rfl := pcs_inj h1
  exact ⟨⟨u, rfl, h2, h3⟩, h.small, hk, h.ins.2⟩
theorem PgAs.u1 {w : World} {b : Pg} {u : Value} (h : PgAs w (pcs b u) b) : u.oneCell' = true := by
  obtain ⟨v, h1, h2, h3⟩ := h.ex
  obtain rfl := pcs_inj h1
  exact h2
/-- A log's answer to the record that only takes a place. -/
theorem nt_at {L : Lg} (h : L.Wf) : In (L.append nt).2.1 ∧ (L.append nt).2.1 < ((L.append nt).1.tail : Int) := by
  have hlow := h.low
  have hst := h.st
  unfold Lg.append
  cases hc : decide ((rCheck (atR nt L.tail)).2 = 0) with
  | false => simp only [cond_false]; unfold In; omega
  | true =>
    rw [decide_eq_true_eq] at hc
    cases decide (L.room < ((rEnc (atR nt L.tail)).1.length : Int)) with
    | true => simp only [cond_true]; unfold In; omega
    | false =>
      have := (Lg.enc_len hc (r := atR nt L.tail) nt_lsns).1
      simp only [cond_true, cond_false]
      refine ⟨by unfold In; omega, ?_⟩
      have ht : L.tail = L.base + L.kept.length := rfl
      show (L.tail : Int) < ((L.base + (L.kept ++ (rEnc (atR nt L.tail)).1).length : Nat) : Int)
      rw [List.length_append]; omega
end Go.Proofs.YthbngnlmgplijaaGreatDoor

namespace Go.Proofs.YthbngnlmgplijaaGreatDoor
open Go.Al Go.Proofs
set_option linter.unusedVariables false
set_option linter.unusedSimpArgs false
set_option linter.unusedSectionVars false
set_option maxRecDepth 100000

theorem nt_body {k : Nat} (h : k ≤ 127) : rBody (atR nt k) = [UInt8.ofNat k, 0, 0, 2, 1, 0, 0, 0, 0, 0, 0, 0, 0, 0, 0, 0] := by
  have e0 : encI 0 = [0] := encI_small (n := 0) (by omega)
  have e1 : encI 1 = [1] := encI_small (n := 1) (by omega)
  have e2 : encI 2 = [2] := encI_small (n := 2) (by omega)
  have e0' : encI ((0 : Nat) : Int) = [0] := e0
  have ek := encI_small h
  simp only [rBody, atR, nt, numsB, headL, txtB, listB, List.length_nil, List.flatMap_cons, List.flatMap_nil, e0, e0', e1, e2, ek]
  rfl
theorem nt1 : (rCheck (atR nt 1)).2 = 0 := by
  have : rCheck (atR nt 1) = rInner (atR nt 1) := rfl
  rw [this]
  unfold rInner
  rw [nt_body (by omega)]
  rfl
theorem nt_len : (rEnc (atR nt 1)).1.length = 24 := by
  rw [rEnc_ok nt1 (by intro m hm; cases hm), nt_body (by omega)]
  simp only [List.length_append, beN_len, List.length_cons, List.length_nil]
def awL : Lg := { Lg.new 0 10 with kept := (rEnc (atR nt 1)).1, recs := [(1, atR nt 1)] }
theorem nt_app : (Lg.new 0 10).append nt = (awL, 1, 0) := by
  have ht : (Lg.new 0 10).tail = 1 := rfl
  have hr : (Lg.new 0 10).room = 432 := rfl
  unfold Lg.append
  rw [ht, hr, nt1, nt_len]
  rfl
theorem awL_tail : awL.tail = 25 := by
  show 1 + (rEnc (atR nt 1)).1.length = 25
  rw [nt_len]
theorem put_owed (s : PS) (i : Nat) : (s.put i).1.p.owed = s.p.owed ∧ (s.put i).1.l = s.l := by
  unfold PS.put
  cases decide ((pEnc (s.p.get i).pg).2 = 0) with
  | false => exact ⟨rfl, rfl⟩
  | true =>
    cases decide ((s.putW i).2 = 0) with
    | false => exact ⟨rfl, rfl⟩
    | true => exact ⟨rfl, rfl⟩
theorem write1_calm {s : PS} {i : Nat} (h : ¬ (s.l.last : Int) ≤ (s.p.get i).pg.lsn) : (s.write1 i).1.p.owed = s.p.owed ∧ (s.write1 i).1.l = s.l := by
  unfold PS.write1
  rw [decide_eq_false h, cond_false]
  exact put_owed s i
theorem write1_flush {s : PS} {i : Nat} (h : (s.l.last : Int) ≤ (s.p.get i).pg.lsn) (hf : (s.flu i).2.2 = 0) : (s.write1 i).1.p.owed = s.p.synced.owed ∧ (s.write1 i).1.l = (s.flu i).1 := by
  unfold PS.write1
  rw [decide_eq_true h, cond_true, decide_eq_true hf, cond_true]
  exact put_owed _ i
theorem take_calm {s : PS} (h : ∀ i, (s.p.get i).chg = true → ¬ (s.l.last : Int) ≤ (s.p.get i).pg.lsn) (pick : Int) : (s.take pick).1.p.owed = s.p.owed ∧ (s.take pick).1.l = s.l := by
  unfold PS.take
  cases s.p.hold (-1) with
  | some i => exact ⟨rfl, rfl⟩
  | none =>
    simp only
    generalize PS.pickAt s.p.fr.length pick = i
    cases hc : (s.p.get i).chg with
    | false => exact ⟨rfl, rfl⟩
    | true =>
      have := write1_calm (h i hc)
      cases decide ((s.write1 i).2 = 0) with
      | true => exact this
      | false => exact this
theorem fetch_calm {s : PS} (h : ∀ i, (s.p.get i).chg = true → ¬ (s.l.last : Int) ≤ (s.p.get i).pg.lsn) (n pick : Int) : (s.fetch n pick).1.p.owed = s.p.owed ∧ (s.fetch n pick).1.l = s.l := by
  have ht := take_calm h pick
  unfold PS.fetch
  cases decide (s.p.known n = 0) with
  | false => exact ⟨rfl, rfl⟩
  | true =>
    simp only [cond_true]
    cases s.p.hold n with
    | some i => exact ⟨rfl, rfl⟩
    | none =>
      simp only
      cases decide ((s.raw n).2 = 0) with
      | false => exact ⟨rfl, rfl⟩
      | true =>
        cases decide ((pDec (s.raw n).1).2 = 0) with
        | false => exact ⟨rfl, rfl⟩
        | true =>
          cases decide ((s.take pick).2.2 = 0) with
          | true => exact ht
          | false => exact ht
def awB1 : Pg := ⟨1, 2, 0, 0, [], [[120]]⟩
def awB2 : Pg := ⟨1, 2, 0, 0, [], []⟩
def awS (d : Dk) : PS := ⟨newP 10 4 1, awL, d⟩
def awS1 (d : Dk) : PS := ⟨⟨10, 4, [⟨awB1, 2, true⟩], [(2, 1)]⟩, awL, d⟩
theorem aw_set1 (d : Dk) : (awS d).set 2 awB1 0 = (awS1 d, 0) := by kernel_rfl
theorem aw_end {d : Dk} {lst : Nat → Option Pg} (h : PGood (awS1 d) lst) : ((awS1 d).set 3 awB2 0).2 = 0 ∧ ∃ lst', PGood ((awS1 d).set 3 awB2 0).1 lst' ∧ lst' 2 = some awB1 ∧ (((awS1 d).set 3 awB2 0).1.fetch 2 0).1.l.last = (((awS1 d).set 3 awB2 0).1.fetch 2 0).1.l.tail ∧ getD (((awS1 d).set 3 awB2 0).1.fetch 2 0).1.p.owed 2 ≠ none ∧ 2 < ((awS1 d).set 3 awB2 0).1.p.pages := by
  have hE2 : setE awB2 = 0 := by decide
  have hp : (2 : Nat) < (awS1 d).p.pages ∧ (3 : Nat) < (awS1 d).p.pages := by show 2 < 4 ∧ 3 < 4; omega
  obtain ⟨h1, h2, h3⟩ := h.set (n := 3) hp.2 (b := awB2) (by show (1 : Int) < (awL.tail : Int); rw [awL_tail]; decide) 0
  have hl2 : lst 2 = some awB1 := h.held 0 ⟨awB1, 2, true⟩ 2 rfl rfl
  have hq : ((awS1 d).l.last : Int) ≤ ((awS1 d).p.get 0).pg.lsn := by show (1 : Int) ≤ 1; decide
  have hflu : (awS1 d).flu 0 = awL.flush 1 d := rfl
  obtain ⟨f1, f2, f3, f4, f5, f6⟩ := flush_calm h.wl h.calm (by have := h.lay; omega) hq (by show (1 : Nat) < awL.tail; rw [awL_tail]; decide)
  have f1' : ((awS1 d).flu 0).2.2 = 0 := f1
  have f2' : ((awS1 d).flu 0).1 = { awL with last := awL.tail } := f2
  obtain ⟨w1, w2⟩ := write1_flush hq f1'
  obtain ⟨g1, _, _, g4⟩ := h.write1 (i := 0) (n := 2) (f := ⟨awB1, 2, true⟩) rfl rfl rfl
  have hset : (awS1 d).set 3 awB2 0 = ((((awS1 d).write1 0).1.lay 0 pf0).own 0 3 awB2, 0) := by
    have k1 : (awS1 d).p.known 3 = 0 := by kernel_rfl
    have k2 : (pEnc awB2).2 = 0 := by rw [pEnc_err]; decide
    have k3 : (awS1 d).p.hold 3 = none := rfl
    have k4 : (awS1 d).take 0 = (((awS1 d).write1 0).1.lay 0 pf0, 0, 0) := by
      have k5 : (awS1 d).p.hold (-1) = none := rfl
      have k6 : PS.pickAt (awS1 d).p.fr.length 0 = 0 := by kernel_rfl
      have k7 : ((awS1 d).p.get 0).chg = true := rfl
      unfold PS.take
      rw [k5]
      simp only [k6, k7, g1, cond_true, decide_true]
    unfold PS.set
    rw [k1, k2, k3, k4]
    simp only [decide_true, cond_true]
    rfl
  have hsy : (awS1 d).p.synced.owed = [(2, 1)] := rfl
  rw [hsy] at w1
  have ho : ((((awS1 d).write1 0).1.lay 0 pf0).own 0 3 awB2).p.owed = [(2, 1), (3, 1)] := by
    show (bif (getD ((awS1 d).write1 0).1.p.owed 3).isNone then setD ((awS1 d).write1 0).1.p.owed 3 awB2.lsn else ((awS1 d).write1 0).1.p.owed) = _
    rw [w1]; rfl
  have hl : ((((awS1 d).write1 0).1.lay 0 pf0).own 0 3 awB2).l = { awL with last := awL.tail } := by
    show ((awS1 d).write1 0).1.l = _
    rw [w2, f2']
  have hfr : ((((awS1 d).write1 0).1.lay 0 pf0).own 0 3 awB2).p.fr = [⟨awB2, 3, true⟩] := by
    show ((((awS1 d).write1 0).1.p.fr.set 0 pf0).set 0 ⟨awB2, 3, true⟩) = _
    rw [g4]; rfl
  rw [show ((3 : Nat) : Int) = 3 from rfl] at h3
  rw [hset] at h3 ⊢
  simp only at h3 ⊢
  have hpp : 2 < ((((awS1 d).write1 0).1.lay 0 pf0).own 0 3 awB2).p.pages := by
    show 2 < ((awS1 d).write1 0).1.p.pages
    rw [(write1_len (awS1 d) 0).2.1]; show 2 < 4; omega
  generalize ((((awS1 d).write1 0).1.lay 0 pf0).own 0 3 awB2) = s3 at h3 ho hl hfr hpp ⊢
  rw [if_pos hE2] at h3
  have hcalm : ∀ i, (s3.p.get i).chg = true → ¬ (s3.l.last : Int) ≤ (s3.p.get i).pg.lsn := by
    intro i hc
    unfold Pl.get at hc ⊢
    rw [hfr] at hc ⊢
    rw [hl]
    match i with
    | 0 => show ¬ ((awL.tail : Int) ≤ 1); rw [awL_tail]; decide
    | i + 1 => cases hc
  obtain ⟨q1, q2⟩ := fetch_calm hcalm 2 0
  refine ⟨trivial, _, h3, ?_, ?_, ?_⟩
  · unfold upd; rw [if_neg (by decide)]; exact hl2
  · rw [q2, hl]; rfl
  · rw [q1, ho]; exact ⟨by decide, hpp⟩
theorem bldB1 (a : Option Addr) (j c : Nat) (w : World) : (Instr.build 61 #[(0, iv 1), (1, iv 2), (5, .slice a j c)]).run Tryz.prog w = .ok (.agg (pcs awB1 (.slice a j c))) w := by kernel_rfl
theorem bldB2 (w : World) : (Instr.build 61 #[(0, iv 1), (1, iv 2)]).run Tryz.prog w = .ok (.agg (pcs awB2 nlv)) w := by kernel_rfl
theorem awB2_as (w : World) : PgAs w (pcs awB2 nlv) awB2 := ⟨⟨_, rfl, rfl, items_nil w⟩, by simp [awB2], by simp [awB2, In]⟩
set_option maxHeartbeats 8000000 in
theorem paw_spec (w : World) : Cl Tryz.prog 35 [] w fun v w' => v = .bool true ∧ Fm (fun _ => False) w w' := by
  refine c35 ?_; unfold T35
  refine (dnew_spec w 60).mono ?_
  rintro _ w1 ⟨_, h2⟩
  obtain ⟨b, g, m, rfl, hb, hg, hm, hd, hf1⟩ := h2 (by omega)
  clear h2
  have hlt := hd.lt
  change DAt w1 b g m (Dk.mk0 60) at hd
  simp only [RS0, RS1, RS2, RS3, RS4, RS5, bne_refl0]
  have hG0 := good_new (N := 60) (n := 10) (frm := 10) (pages := 4) (frames := 1) (by decide) (by decide) (by decide) (by decide) (by decide)
  obtain ⟨hz0, _, hdl⟩ := calm_fmt (calm_mk0 (n := 60) (by omega)) (i := 0) (j := 10) (by omega) (by rw [mk0_len]; omega)
  rw [mk0_len] at hdl
  refine (wformat_spec hd ((0 : Nat) : Int) ((10 : Nat) : Int)).mono ?_
  rintro _ w2 ⟨p, rfl, hd2, hf2, _, h3⟩
  obtain ⟨lb, X, rfl, hL2, hX⟩ := h3 hz0
  rw [hz0]
  generalize (fmtE (Dk.mk0 60) ((0 : Nat) : Int) ((10 : Nat) : Int)).1 = d2 at hd2 hG0 hdl
  simp only [Int.toNat_natCast] at hL2
  have hF2 : Fm (fun _ => False) w w2 := Fm.own hf1 hf2 (by rintro y (rfl | rfl | rfl) <;> assumption)
  have z1 := hf1.size
  simp only [RS0, RS1, RS2, RS3, RS4, RS5, bne_refl0]
  refine (pnew_spec hd2 lb ((10 : Nat) : Int) ((4 : Nat) : Int) ((1 : Nat) : Int) (by unfold In; omega)).mono ?_
  rintro v w3 ⟨hf3, hc⟩
  have hnb : newBad d2 ((10 : Nat) : Int) ((4 : Nat) : Int) ((1 : Nat) : Int) = false := by unfold newBad; rw [hdl]; decide
  rcases hc with ⟨e, _⟩ | ⟨_, pb, fb, ob, Xp, F, rfl, hP, hwf, hXp⟩
  · rw [hnb] at e; cases e
  have hF3 := Fmf hF2 hf3
  obtain ⟨Y, hS⟩ := Sys.made (w0 := w) hd2 ⟨⟨hb, hg, hm⟩, hlt⟩ hL2 hX z1 hf3 hP hXp hwf hF3
  clear hP hL2 hd2 hX hXp h3
  simp only [RS0, RS1, RS2, RS3, RS4, RS5, bne_refl0]
  refine (note_spec w3).mono ?_
  rintro _ w4 ⟨rfl, hf4⟩
  refine ((hS.keep0 hf4).append (r := nt) (fun w' _ => nt_as w')).mono ?_
  rintro _ w5 ⟨rfl, ⟨Y5, hS5, _⟩, hf5⟩
  obtain ⟨hG1, _⟩ := hG0.append nt nt_lsns
  simp only at hS5 hG1
  rw [nt_app] at hS5 hG1 ⊢
  simp only at hS5 hG1
  simp only [RS0, RS1, RS2, RS3, RS4, RS5]
  have hbs := bs22 [120] w5
  refine RunS_ok hbs ?_
  have hfa := Fm.alloc (fun _ => False) w5 (.cells #[stv [120]] 9)
  have hna := own_new (w := w5) (e := 9) (sz := 1) (base := w5.heap.size) (n := 1) (l := [stv [120]]) rfl (Nat.le_refl _) (by unfold maxLen; omega)
  have z6 := alloc_size w5 (.cells #[stv [120]] 9)
  have hS6 := hS5.keep0 hfa
  change (w5.alloc (.cells #[stv [120]] 9)).ownsRow _ _ _ _ _ _ at hna
  generalize w5.alloc (.cells #[stv [120]] 9) = w6 at hfa hna hS6 z6
  refine RunS_ok (bldB1 _ _ _ _) ?_
  have hb1 : PgOw w6 w5.heap.size (pcs awB1 (.slice (some ⟨w5.heap.size, 0, none⟩) 1 1)) awB1 := ⟨⟨_, rfl, hna⟩, by simp [awB1], by simp [awB1, In]⟩
  refine (hS6.set (b := awB1) (fun w' hf => ?_) 2 0).mono ?_
  · refine (HeldP.of_own (P := fun y => y = w5.heap.size) hb1 (fun y hy => ?_)) w' (hf.mono (fun y _ hy e => ?_))
    · cases hy; rfl
    · have := (hS5.ge y hy).2; omega
  rintro _ w7 ⟨rfl, ⟨Y7, hS7, _⟩, hf7⟩
  obtain ⟨_, _, hG2⟩ := hG1.set (n := 2) (by show (2 : Nat) < Int.toNat ((4 : Nat) : Int); decide) (b := awB1) (by show (1 : Int) < (awL.tail : Int); rw [awL_tail]; decide) 0
  have e1 := aw_set1 d2
  unfold awS at e1
  have ecast : ((2 : Nat) : Int) = 2 := rfl
  have e10 : newP ((10 : Nat) : Int) ((4 : Nat) : Int) ((1 : Nat) : Int) = newP 10 4 1 := rfl
  rw [ecast] at hG2
  rw [e10] at hS7 hG2 ⊢
  rw [e1] at hS7 hG2 ⊢
  simp only at hS7 hG2
  obtain ⟨k1, lst', k2, k3, k4, k5, hpg⟩ := aw_end hG2
  simp only [RS0, RS1, RS2, RS3, RS4, RS5]
  refine RunS_ok (bldB2 _) ?_
  refine (hS7.set (b := awB2) (fun w' hf => awB2_as w') 3 0).mono ?_
  rintro _ w8 ⟨rfl, ⟨Y8, hS8, _⟩, hf8⟩
  rw [k1]
  generalize ((awS1 d2).set 3 awB2 0).1 = s3 at hS8 k2 k4 k5 hpg
  obtain ⟨_, _, hres⟩ := k2.fetch (n := 2) hpg 0
  rw [k3, ecast] at hres
  refine (hS8.fetch 2 0).mono ?_
  rintro _ w9 ⟨u, rfl, ho9, ⟨Y9, hS9, _, _⟩, hf9⟩
  rw [hres] at ho9 ⊢
  simp only at ho9
  generalize (s3.fetch 2 0).1 = s4 at hS9 k4 k5
  obtain ⟨u', hue, hou⟩ := ho9.ex
  obtain rfl := pcs_inj hue
  have hca : CellsAt w9 u 1 1 [stv [120]] := CellsAt.of_own hou
  have hu1 := own_one hou
  simp only [RS0, RS1, RS2, RS3, RS4, RS5]
  refine New_any ?_
  intro x10 w10 hx10 hs10 hw10 hf10
  refine St_all hw10 rfl rfl (pcs_one hu1) ?_
  intro w11 hw11 hs11 hf11
  have hF11 : Fm (fun _ => False) w9 w11 := Fm.own hf10 hf11 (by rintro y rfl; omega)
  have c5 : w11.cell? ⟨x10, 5, none⟩ = some u := by rw [cell_at hw11]; rfl
  have hca11 := hca.keep hF11 (fun _ _ e => e)
  obtain ⟨ad, hix, _, hcell⟩ := hca11.at1 (i := 0) (x := stv [120]) rfl .i64
  have hlv := hca11.lenV
  have hS11 := hS9.keep0 hF11
  have b0 : ((0 : Int) == 0) = true := rfl
  have b1 : (((1 : Nat) : Int) == 1) = true := rfl
  have b2 : decide (str [120] = ByteArray.mk #[120]) = true := decide_eq_true rfl
  have hix' : ixV 1 u (Value.int IntKind.i64 0) = some (.pointer (some ad)) := hix
  simp only [RS0, RS1, RS2, RS3, RS4, RS5, b0, b1, b2, c5, hlv, hix', hcell]
  refine hS11.flushed.mono ?_
  rintro _ w12 ⟨rfl, hf12⟩
  have hS12 := hS11.keep0 hf12
  try simp only [RS0, RS1, RS2, RS3, RS4, RS5]
  refine hS12.tail.mono ?_
  rintro _ w13 ⟨rfl, hf13⟩
  have hS13 := hS12.keep0 hf13
  rw [k4]
  simp only [RS0, RS1, RS2, RS3, RS4, RS5, beq_dec, decide_true]
  refine (hS13.owes 2).mono ?_
  rintro _ w13 ⟨rfl, rfl⟩
  have hk : (getD s4.p.owed 2).isNone = false := by
    cases hq : getD s4.p.owed 2 with
    | none => exact absurd hq k5
    | some _ => rfl
  rw [hk]
  simp only [RS0, RS1, RS2, RS3, RS4, RS5]
  exact ⟨(by trivial), hS13.fm⟩
end Go.Proofs.YthbngnlmgplijaaGreatDoor

namespace Go.Proofs.YthbngnlmgplijaaGreatDoor
open Go.Al Go.Proofs
set_option linter.unusedVariables false
set_option linter.unusedSimpArgs false
set_option linter.unusedSectionVars false
set_option maxRecDepth 100000

/-- What a new pool of the laws is. -/
def lawD : Dk := (fmtE (Dk.mk0 2000) ((0 : Nat) : Int) ((200 : Nat) : Int)).1
def lawS (n : Nat) : PS := ⟨newP ((200 : Nat) : Int) ((12 : Nat) : Int) (n : Int), Lg.new 0 200, lawD⟩
theorem lawS_good {n : Nat} (h : 1 ≤ n) : PGood (lawS n) (fun _ => none) := good_new (N := 2000) (n := 200) (frm := 200) (pages := 12) (by decide) (by decide) (by decide) (by decide) h
theorem lawD_len : lawD.cur.length = 2000 := by
  have := (calm_fmt (calm_mk0 (n := 2000) (by omega)) (i := 0) (j := 200) (by omega) (by rw [mk0_len]; omega)).2.2
  rw [mk0_len] at this
  exact this
theorem lawD_ok : (fmtE (Dk.mk0 2000) ((0 : Nat) : Int) ((200 : Nat) : Int)).2 = 0 := (calm_fmt (calm_mk0 (n := 2000) (by omega)) (i := 0) (j := 200) (by omega) (by rw [mk0_len]; omega)).1
theorem law_nb {n : Nat} (h1 : 1 ≤ n) (h2 : n ≤ 1024) : newBad lawD ((200 : Nat) : Int) ((12 : Nat) : Int) (n : Int) = false := by
  unfold newBad
  rw [lawD_len, decide_eq_false (show ¬ (n : Int) < 1 by omega), decide_eq_false (show ¬ 1024 < (n : Int) by omega)]
  decide
end Go.Proofs.YthbngnlmgplijaaGreatDoor

namespace Go.Proofs.YthbngnlmgplijaaGreatDoor
open Go.Al Go.Proofs
set_option linter.unusedVariables false
set_option linter.unusedSimpArgs false
set_option linter.unusedSectionVars false
set_option maxRecDepth 100000

abbrev LV := Pg × Value
def lpC (x : LV) : List Value := [iv x.1.lsn, iv x.1.kind, iv x.1.level, iv x.1.right, stv x.1.high, x.2]
theorem lpC_len (x : LV) : (lpC x).length = 6 := rfl
theorem lpz_get : ∀ k, k < 6 → (lpC (pg0, nlv))[k]? = some ((lpC (pg0, nlv)).toArray[k]!) := by
  intro k hk
  match k, hk with
  | 0, _ => rfl
  | 1, _ => rfl
  | 2, _ => rfl
  | 3, _ => rfl
  | 4, _ => rfl
  | 5, _ => rfl
theorem made_pages (n : Nat) : madeCells (lpC (pg0, nlv)).toArray (n * 6) = ((List.replicate n (pg0, nlv)).flatMap lpC).toArray := by
  apply Array.ext'
  apply List.ext_getElem?
  intro j
  have hsz : (lpC (pg0, nlv)).toArray.size = 6 := rfl
  simp only [madeCells, Array.toList_map, Array.toList_range, List.getElem?_map, hsz]
  by_cases hj : j < n * 6
  · rw [List.getElem?_range hj]
    have h1 : (List.replicate n (pg0, nlv))[j / 6]? = some (pg0, nlv) := by rw [List.getElem?_replicate, if_pos (by omega)]
    have h2 := flat_get lpC_len h1 (j := j % 6) (by omega)
    have h3 : j / 6 * 6 + j % 6 = j := by omega
    rw [h3] at h2
    rw [h2, lpz_get _ (by omega)]
    rfl
  · have hl := flat_len lpC_len (List.replicate n (pg0, nlv))
    rw [List.length_replicate] at hl
    rw [List.getElem?_eq_none (l := List.range (n * 6)) (by rw [List.length_range]; omega), List.getElem?_eq_none (by rw [hl]; omega)]
    rfl
theorem made61 (w : World) (n : Nat) (h : n ≤ 100000) : (Instr.makeSlice 72 (iv n) (iv n)).run Tryz.prog w = .ok (.slice (some ⟨w.heap.size, 0, none⟩) n n) (w.alloc (.cells ((List.replicate n (pg0, nlv)).flatMap lpC).toArray 61)) := by
  obtain ⟨i, h1, h2, h3, h4⟩ := info_of (P := Tryz.prog) (e := 61) (z := .agg (lpC (pg0, nlv)).toArray) (n := 6) (b := 72) (by kernel_rfl)
  have hr := run_make (P := Tryz.prog) w 72 61 i _ Tryz.underlying72 h1 h2 .i64 .i64 n n (by omega) (Int.le_refl _) (by rw [h4]; omega) (by omega)
  rw [hr]
  simp only [Int.toNat_natCast, h3]
  rw [← made_pages]
  rfl
theorem made4 (w : World) (n : Nat) (h : n ≤ 100000) : (Instr.makeSlice 73 (iv n) (iv n)).run Tryz.prog w = .ok (.slice (some ⟨w.heap.size, 0, none⟩) n n) (w.alloc (.cells (List.replicate n (Value.bool false)).toArray 4)) := by
  obtain ⟨i, h1, h2, h3, h4⟩ := info_of (P := Tryz.prog) (e := 4) (z := .bool false) (n := 1) (b := 1) (by kernel_rfl)
  exact VRow.make Tryz.underlying73 h1 h2 h3 rfl w n (by rw [h4]; omega) (by omega)
structure LastAt (w0 w : World) (xl xi : Nat) (lst : Nat → Option Pg) : Prop where
  ex : ∃ (V : List LV) (B : List Bool), w.heap[xl]? = some (.cells (V.flatMap lpC).toArray 61) ∧ w.heap[xi]? = some (.cells (B.map Value.bool).toArray 4) ∧ V.length = 12 ∧ B.length = 12 ∧
    (∀ n, n < 12 → B[n]? = some (lst n).isSome) ∧ ∀ n b, n < 12 → lst n = some b → ∃ u, V[n]? = some (b, u) ∧ PgAs w0 (pcs b u) b
  ne : xl ≠ xi
  ge : w0.heap.size ≤ xl ∧ w0.heap.size ≤ xi
theorem pix6 {n : Nat} (hn : n < 12) (xl : Nat) : ixV 6 (.slice (some ⟨xl, 0, none⟩) 12 12) (iv (n : Int)) = some (.pointer (some ⟨xl, n * 6, none⟩)) := by
  rw [ixV_at hn, add_none, Nat.zero_add]
theorem pix1 {n : Nat} (hn : n < 12) (xi : Nat) : ixV 1 (.slice (some ⟨xi, 0, none⟩) 12 12) (iv (n : Int)) = some (.pointer (some ⟨xi, n, none⟩)) := by
  rw [ixV_at hn, add_none, Nat.zero_add, Nat.mul_one]
section
variable {w0 w w' : World} {xl xi : Nat} {lst : Nat → Option Pg} {S : Nat → Prop}
theorem LastAt.keep (h : LastAt w0 w xl xi lst) (hf : Fm S w w') (h1 : ¬ S xl) (h2 : ¬ S xi) : LastAt w0 w' xl xi lst := by
  obtain ⟨V, B, g1, g2, g3, g4, g5, g6⟩ := h.ex
  exact ⟨⟨V, B, hf.heap g1 h1, hf.heap g2 h2, g3, g4, g5, g6⟩, h.ne, h.ge⟩
theorem LastAt.keep0 (h : LastAt w0 w xl xi lst) (hf : Fm (fun _ => False) w w') : LastAt w0 w' xl xi lst := h.keep hf (fun e => e) (fun e => e)
theorem LastAt.lt (h : LastAt w0 w xl xi lst) : xl < w.heap.size ∧ xi < w.heap.size := by
  obtain ⟨V, B, g1, g2, _⟩ := h.ex
  exact ⟨lt_of_heap g1, lt_of_heap g2⟩
theorem LastAt.is (h : LastAt w0 w xl xi lst) {n : Nat} (hn : n < 12) : w.cell? ⟨xi, n, none⟩ = some (.bool (lst n).isSome) := by
  obtain ⟨V, B, g1, g2, g3, g4, g5, g6⟩ := h.ex
  rw [cell_at g2, List.getElem?_toArray, List.getElem?_map, g5 n hn]; rfl
theorem LastAt.pg (h : LastAt w0 w xl xi lst) {n : Nat} (hn : n < 12) {b : Pg} (hb : lst n = some b) : ∃ u, cellsV w ⟨xl, n * 6, none⟩ 6 = some (.agg (pcs b u)) ∧ PgAs w0 (pcs b u) b := by
  obtain ⟨V, B, g1, g2, g3, g4, g5, g6⟩ := h.ex
  obtain ⟨u, h1, h2⟩ := g6 n b hn hb
  refine ⟨u, cellsV_of (l := lpC (b, u)) rfl (fun j hj => ?_), h2⟩
  rw [add_none, cell_at g1, List.getElem?_toArray, flat_get lpC_len h1 hj]
theorem LastAt.new {xl : Nat} (h1 : w.heap[xl]? = some (.cells ((List.replicate 12 (pg0, nlv)).flatMap lpC).toArray 61)) (h2 : w.heap[xi]? = some (.cells (List.replicate 12 (Value.bool false)).toArray 4)) (hne : xl ≠ xi) (hge : w0.heap.size ≤ xl ∧ w0.heap.size ≤ xi) : LastAt w0 w xl xi (fun _ => none) := by
  refine ⟨⟨List.replicate 12 (pg0, nlv), List.replicate 12 false, h1, ?_, by simp, by simp, fun n hn => ?_, fun n b _ e => by cases e⟩, hne, hge⟩
  · rw [h2]; rfl
  · rw [List.getElem?_replicate, if_pos hn]; rfl
theorem LastAt.put (h : LastAt w0 w xl xi lst) {n : Nat} (hn : n < 12) {b : Pg} {u : Value} (hb : PgAs w0 (pcs b u) b) {k : KV} (hk : ∀ w', LastAt w0 w' xl xi (upd lst n b) → Fm (fun y => y = xl ∨ y = xi) w w' → k undef w') :
    St 6 w (.pointer (some ⟨xl, n * 6, none⟩)) (.agg (pcs b u)) fun u_417 w_418 => St 1 w_418 (.pointer (some ⟨xi, n, none⟩)) (Value.bool true) k := by
  obtain ⟨V, B, g1, g2, g3, g4, g5, g6⟩ := h.ex
  refine St_blkN g1 rfl (by rw [List.size_toArray, flat_len lpC_len]; omega) (pcs_one hb.u1) ?_
  intro w2 hw2 hs2 hf2
  rw [ov_eq _ _ _ (by rw [List.size_toArray, flat_len lpC_len]; show n * 6 + 6 ≤ _; omega)] at hw2
  have hw2' : w2.heap[xl]? = some (.cells ((V.set n (b, u)).flatMap lpC).toArray 61) := by
    rw [hw2, flat_split lpC_len V n (b, u) (by omega)]; rfl
  refine St_blk (hf2.heap g2 (fun e => h.ne e.symm)) (j := n) (by rw [List.size_toArray, List.length_map]; omega) rfl ?_
  intro w3 hw3 hs3 hf3
  rw [List.setIfInBounds_toArray, ← List.map_set] at hw3
  refine hk w3 ⟨⟨V.set n (b, u), B.set n true, hf3.heap hw2' h.ne, hw3, by rw [List.length_set]; exact g3, by rw [List.length_set]; exact g4, fun m hm => ?_, fun m c hm hc => ?_⟩, h.ne, h.ge⟩ (hf2.trans hf3 (fun _ _ e => .inl e) (fun _ _ e => .inr e))
  · rw [List.getElem?_set]
    unfold upd
    by_cases e : n = m
    · rw [if_pos e, if_pos (by omega), if_pos e.symm]; rfl
    · rw [if_neg e, if_neg (fun x => e x.symm)]; exact g5 m hm
  · rw [List.getElem?_set]
    unfold upd at hc
    by_cases e : n = m
    · rw [if_pos e.symm] at hc
      cases hc
      exact ⟨u, by rw [if_pos e, if_pos (by omega)], hb⟩
    · rw [if_neg (fun x => e x.symm)] at hc
      rw [if_neg e]
      exact g6 m c hm hc
end

/-! ### A law's state -/
structure KS (w0 w : World) (Y : Nat → Prop) (pb lb db xl xi : Nat) (s : PS) (lst : Nat → Option Pg) : Prop where
  S : Sys w0 w Y pb lb db s
  L : LastAt w0 w xl xi lst
  G : PGood s lst
  no : ¬ Y xl ∧ ¬ Y xi
  pg : s.p.pages = 12 ∧ s.p.frm = 200
section
variable {w0 w w' : World} {Y Y' S : Nat → Prop} {pb lb db xl xi : Nat} {s s' : PS} {lst : Nat → Option Pg}
theorem KS.keep (h : KS w0 w Y pb lb db xl xi s lst) (hf : Fm S w w') (hS : ∀ y, S y → w.heap.size ≤ y) : KS w0 w' Y pb lb db xl xi s lst := by
  have hl := h.L.lt
  have hz := h.S.fm.size
  exact ⟨h.S.keep hf (fun y hy e => by have := hS y e; have := (h.S.ge y hy).2; omega) (fun y e => by have := hS y e; omega), h.L.keep hf (fun e => by have := hS _ e; omega) (fun e => by have := hS _ e; omega), h.G, h.no, h.pg⟩
theorem KS.keep0 (h : KS w0 w Y pb lb db xl xi s lst) (hf : Fm (fun _ => False) w w') : KS w0 w' Y pb lb db xl xi s lst := h.keep hf (fun _ e => e.elim)
theorem KS.step (h : KS w0 w Y pb lb db xl xi s lst) (h1 : Sys w0 w' Y' pb lb db s') (hG : Gr w Y Y') (hf : Fm Y w w') (hg : PGood s' lst) (hp : s'.p.pages = s.p.pages ∧ s'.p.frm = s.p.frm) : KS w0 w' Y' pb lb db xl xi s' lst := by
  have hl := h.L.lt
  refine ⟨h1, h.L.keep hf h.no.1 h.no.2, hg, ⟨fun e => ?_, fun e => ?_⟩, by rw [hp.1, hp.2]; exact h.pg⟩
  · rcases hG _ e with q | q
    · exact h.no.1 q
    · omega
  · rcases hG _ e with q | q
    · exact h.no.2 q
    · omega
end
theorem Gr.x {w : World} {Y Y' : Nat → Prop} (h : Gr w Y Y') {x : Nat} (hx : x < w.heap.size) (hn : ¬ Y x) : ¬ Y' x := fun e => by
  rcases h x e with q | q
  · exact hn q
  · omega
set_option maxHeartbeats 8000000 in
/-- An operation that sets a page. -/
theorem set_op {w0 w : World} {Y : Nat → Prop} {pb lb db xl xi x14 n : Nat} {s : PS} {lst : Nat → Option Pg} {o : OpP} {u : Value} (h : KS w0 w Y pb lb db xl xi s lst) (hn : n < 12) (hO : OB w x14 o u) (hIn : PgAs w0 (pcs (opB o) u) (opB o)) (hx : ¬ Y x14 ∧ x14 ≠ xl ∧ x14 ≠ xi) {K : World → Prop}
    (hk : ∀ w' Y' s' lst', KS w0 w' Y' pb lb db xl xi s' lst' → OB w' x14 o u → ¬ Y' x14 → K w') :
    Cl Tryz.prog 31 [] w fun t89_382 w_383 =>
          Cl Tryz.prog 21 [pv lb, t89_382] w_383 fun t90_384 w_385 =>
          Pu (extV t90_384 0) fun t91_386 =>
          Pu (extV t90_384 1) fun t92_387 =>
          Pu (faV 3 (pv x14)) fun t93_388 =>
          LdN 6 w_385 t93_388 fun t94_389 w_390 =>
          New #[(Value.int IntKind.i64 0), (Value.int IntKind.i64 0), (Value.int IntKind.i64 0), (Value.int IntKind.i64 0), (Value.string (ByteArray.mk #[])), (Value.slice none 0 0)] 61 w_390 fun body18_391 w_392 =>
          St 6 w_392 body18_391 t94_389 fun u_393 w_394 =>
          Pu (faV 0 body18_391) fun t96_395 =>
          St 1 w_394 t96_395 t91_386 fun u_396 w_397 =>
          Pu (binV (TypeDesc.int IntKind.i64) .eql t92_387 (Value.int IntKind.i64 0)) fun t98_398 =>
          Gd (isB true t98_398) (fun kk => kk (pv pb) w_397) w_397 fun t100_399 w_400 =>
          Gd (isB true t98_398) (fun kk => kk (iv (n : Int)) w_400) w_400 fun t101_401 w_402 =>
          Gd (isB true t98_398) (fun kk => LdN 6 w_402 body18_391 kk) w_402 fun t102_403 w_404 =>
          Gd (isB true t98_398) (fun kk => Pu (faV 2 (pv x14)) fun vv => kk vv w_404) w_404 fun t103_405 w_406 =>
          Gd (isB true t98_398) (fun kk => Ld w_406 t103_405 kk) w_406 fun t104_407 w_408 =>
          Gd (isB true t98_398) (fun kk => Cl Tryz.prog 32 [t100_399, t101_401, t102_403, t104_407] w_408 kk) w_408 fun t105_409 w_410 =>
          Gd (isB true t98_398) (fun kk => Pu (binV (TypeDesc.int IntKind.i64) .eql t105_409 (Value.int IntKind.i64 0)) fun vv => kk vv w_410) w_410 fun t106_411 w_412 =>
          Pu (pickV t98_398 t106_411 (Value.bool false)) fun t107_413 =>
          IfB t107_413
            (LdN 6 w_412 body18_391 fun t110_414 w_415 =>
              Pu (ixV 6 (.slice (some ⟨xl, 0, none⟩) 12 12) (iv (n : Int))) fun t111_416 =>
              St 6 w_415 t111_416 t110_414 fun u_417 w_418 =>
              Pu (ixV 1 (.slice (some ⟨xi, 0, none⟩) 12 12) (iv (n : Int))) fun t114_419 =>
              St 1 w_418 t114_419 (Value.bool true) fun u_420 w_421 =>
              K w_421)
            (K w_412) := by
  refine (note_spec w).mono ?_
  rintro _ w2 ⟨rfl, hf2⟩
  have h2 := h.keep0 hf2
  have hO2 := hO.keep hf2 (fun e => e)
  refine (h2.S.append (r := nt) (fun w' _ => nt_as w')).mono ?_
  rintro _ w3 ⟨rfl, ⟨Y3, hS3, hG3⟩, hf3⟩
  obtain ⟨gA, gA2, gA3, gA4⟩ := h.G.append nt nt_lsns
  obtain ⟨hat1, hat2⟩ := nt_at h2.S.lwf
  have h3 := h2.step hS3 hG3 hf3 gA ⟨rfl, rfl⟩
  have hO3 := hO2.keep hf3 hx.1
  have hx3 := hG3.x (lt_of_heap hO2.h) hx.1
  generalize (s.l.append nt).2 = at_ at hat1 hat2
  generalize (s.l.append nt).1 = l' at h3 gA hat2
  simp only [RS0, RS1, RS2, RS3, RS4, RS5, hO3.body]
  refine New_any ?_
  intro x18 w4 hx18 hs4 hw4 hf4
  refine St_all hw4 rfl rfl (pcs_one hIn.u1) ?_
  intro w5 hw5 hs5 hf5
  simp only [RS0, RS1, RS2, RS3, RS4, RS5]
  refine St_blk hw5 (by show 0 < 6; decide) rfl ?_
  intro w6 hw6 hs6 hf6
  rw [pcs_at] at hw6
  have hF6 : Fm (fun _ => False) w3 w6 := Fm.own (Fm.own hf4 hf5 (by rintro y rfl; omega)) hf6 (by rintro y rfl; omega)
  have h6 := h3.keep0 hF6
  have hO6 := hO3.keep hF6 (fun e => e)
  have hn18 : ¬ Y3 x18 := fun e => by have := (hS3.ge _ e).2; omega
  simp only [RS0, RS1, RS2, RS3, RS4, RS5, beq_dec]
  cases hq : decide (at_.2 = 0) with
  | false =>
    simp only [RS0, RS1, RS2, RS3, RS4, RS5]
    exact hk w6 Y3 _ lst h6 hO6 hx3
  | true =>
    have hcv := cellsV_blk hw6 (show (pcs (atP (opB o) at_.1) u).size = 6 from rfl)
    simp only [RS0, RS1, RS2, RS3, RS4, RS5, hcv, hO6.c2]
    have hbw : PgAs w0 (pcs (atP (opB o) at_.1) u) (atP (opB o) at_.1) := hIn.atP hat1
    obtain ⟨s1, s2, s3⟩ := h6.G.set (n := n) (by rw [h6.pg.1]; exact hn) (b := atP (opB o) at_.1) hat2 o.2.2.1
    refine (h6.S.set (b := atP (opB o) at_.1) (fun w' hf => hbw.keep (Fm.own h6.S.fm hf (fun y hy => (h6.S.ge y hy).1))) (n : Int) o.2.2.1).mono ?_
    rintro _ w7 ⟨rfl, ⟨Y7, hS7, hG7⟩, hf7⟩
    have hl6 := h6.L.lt
    have hO7 := hO6.keep hf7 hx3
    have hx7 := hG7.x (lt_of_heap hO6.h) hx3
    have hw7 := hf7.heap hw6 hn18
    have hpgs : (PS.set ⟨s.p, l', s.d⟩ (n : Int) (atP (opB o) at_.1) o.2.2.1).1.p.pages = 12 ∧ (PS.set ⟨s.p, l', s.d⟩ (n : Int) (atP (opB o) at_.1) o.2.2.1).1.p.frm = 200 := by rw [s2.pages, s2.frm]; exact h6.pg
    rw [s1]
    have hxl7 := hG7.x hl6.1 h6.no.1
    have hxi7 := hG7.x hl6.2 h6.no.2
    have hL7 := h6.L.keep hf7 h6.no.1 h6.no.2
    simp only [RS0, RS1, RS2, RS3, RS4, RS5, beq_dec]
    cases hz : decide (setE (atP (opB o) at_.1) = 0) with
    | false =>
      rw [decide_eq_false_iff_not] at hz
      rw [if_neg hz] at s3
      simp only [RS0, RS1, RS2, RS3, RS4, RS5]
      exact hk w7 Y7 _ lst ⟨hS7, hL7, s3, ⟨hxl7, hxi7⟩, hpgs⟩ hO7 hx7
    | true =>
      rw [decide_eq_true_eq] at hz
      rw [if_pos hz] at s3
      simp only [RS0, RS1, RS2, RS3, RS4, RS5, cellsV_blk hw7 (show (pcs (atP (opB o) at_.1) u).size = 6 from rfl), pix6 hn xl]
      have hput := hL7.put hn hbw (k := fun _ w' => K w') (fun w8 hL8 hf8 => by
        have hnot : ∀ y, Y7 y → ¬ (y = xl ∨ y = xi) := by
          rintro y hy (rfl | rfl)
          · exact hxl7 hy
          · exact hxi7 hy
        exact hk w8 Y7 _ _ ⟨hS7.keep hf8 hnot (by rintro y (rfl | rfl); exact hL7.ge.1; exact hL7.ge.2), hL8, s3, ⟨hxl7, hxi7⟩, hpgs⟩ (hO7.keep hf8 (by rintro (e | e); exact hx.2.1 e; exact hx.2.2 e)) hx7)
      simp only [pix1 hn xi, Pu_some]
      exact hput
end Go.Proofs.YthbngnlmgplijaaGreatDoor

namespace Go.Proofs.YthbngnlmgplijaaGreatDoor
open Go.Al Go.Proofs
set_option linter.unusedVariables false
set_option linter.unusedSimpArgs false
set_option linter.unusedSectionVars false
set_option maxRecDepth 100000

section
variable {w0 w w' : World} {Y Y' S : Nat → Prop} {pb lb db xl xi : Nat} {s s' : PS} {lst : Nat → Option Pg}
theorem KS.write (h : KS w0 w Y pb lb db xl xi s lst) {n : Nat} (hn : n < 12) : Cl Tryz.prog 37 [pv pb, iv (n : Int)] w fun v w' => v = iv 0 ∧ (∃ Y' s', KS w0 w' Y' pb lb db xl xi s' lst ∧ Gr w Y Y') ∧ Fm Y w w' := by
  obtain ⟨g1, g2, g3⟩ := h.G.write (n := n) (by rw [h.pg.1]; exact hn)
  refine (h.S.write (n : Int)).mono ?_
  rintro _ w' ⟨rfl, ⟨Y', hS, hG⟩, hf⟩
  exact ⟨by rw [g1], ⟨Y', _, h.step hS hG hf g3 ⟨g2.pages, g2.frm⟩, hG⟩, hf⟩
theorem KS.fetch (h : KS w0 w Y pb lb db xl xi s lst) {n : Nat} (hn : n < 12) (pick : Int) : Cl Tryz.prog 33 [pv pb, iv (n : Int), iv pick] w fun v w' => ∃ u r, v = .tuple #[.agg (pcs r.1 u), iv r.2] ∧ ((lst n = none ∧ r = (pg0, 60)) ∨ ∃ b, lst n = some b ∧ r = (b, 0)) ∧ PgOw w' w.heap.size (pcs r.1 u) r.1 ∧
    (∃ Y' s', KS w0 w' Y' pb lb db xl xi s' lst ∧ Gr w Y Y') ∧ Fm Y w w' := by
  obtain ⟨g1, g2, g3⟩ := h.G.fetch (n := n) (by rw [h.pg.1]; exact hn) pick
  refine (h.S.fetch (n : Int) pick).mono ?_
  rintro _ w' ⟨u, rfl, ho, ⟨Y', hS, hG, _⟩, hf⟩
  refine ⟨u, _, rfl, ?_, ho, ⟨Y', _, h.step hS hG hf g1 ⟨g2.pages, g2.frm⟩, hG⟩, hf⟩
  rw [g3]
  cases lst n with
  | none => exact .inl ⟨rfl, rfl⟩
  | some b => exact .inr ⟨b, rfl, rfl⟩
theorem KS.sync (h : KS w0 w Y pb lb db xl xi s lst) {K : World → Prop} (hk : ∀ w' Y' s', KS w0 w' Y' pb lb db xl xi s' lst → Gr w Y Y' → Fm Y w w' → K w') : Cl Tryz.prog 38 [pv db] w fun t124_427 w_428 => Cl Tryz.prog 39 [pv pb] w_428 fun t126_429 w_430 => K w_430 := by
  obtain ⟨_, g⟩ := h.G.sync
  refine h.S.dsync.mono ?_
  rintro _ w2 ⟨rfl, ⟨Y2, hS2, hG2⟩, hf2⟩
  refine hS2.synced.mono ?_
  rintro _ w3 ⟨⟨Y3, hS3, hG3⟩, hf3⟩
  have hz := hf2.size
  have hG : Gr w Y Y3 := fun y hy => by
    rcases hG3 y hy with e | e
    · exact hG2 y e
    · exact .inr (by omega)
  have hf : Fm Y w w3 := hf2.trans hf3 (fun _ _ e => e) (fun y hy e => by
    rcases hG2 y e with q | q
    · exact q
    · omega)
  exact hk w3 Y3 _ (h.step hS3 hG hf g ⟨rfl, rfl⟩) hG hf
end
/-- A law's disk, log and pool are made. -/
theorem mod6 (frames : Int) : ∃ fn : Nat, fn < 6 ∧ ∃ a b : Int, binV (TypeDesc.int IntKind.i64) .rem (iv frames) (Value.int IntKind.i64 6) = some (iv a) ∧ IntKind.i64.wrap (a + 6) = b ∧ binV (TypeDesc.int IntKind.i64) .rem (iv b) (Value.int IntKind.i64 6) = some (iv (fn : Int)) ∧ IntKind.i64.wrap (1 + (fn : Int)) = ((fn + 1 : Nat) : Int) := by
  obtain ⟨m1, m2, m3, m4⟩ := mod3 (TypeDesc.int IntKind.i64) (n := 6) (by omega) (by omega) frames
  exact ⟨modN 6 frames, m4, _, _, m1, m2, m3, by rw [wrap_id] <;> omega⟩
theorem mod12 (frames : Int) : ∃ fn : Nat, fn < 12 ∧ ∃ a b : Int, binV (TypeDesc.int IntKind.i64) .rem (iv frames) (Value.int IntKind.i64 12) = some (iv a) ∧ IntKind.i64.wrap (a + 12) = b ∧ binV (TypeDesc.int IntKind.i64) .rem (iv b) (Value.int IntKind.i64 12) = some (iv (fn : Int)) := by
  obtain ⟨m1, m2, m3, m4⟩ := mod3 (TypeDesc.int IntKind.i64) (n := 12) (by omega) (by omega) frames
  exact ⟨modN 12 frames, m4, _, _, m1, m2, m3⟩
end Go.Proofs.YthbngnlmgplijaaGreatDoor

namespace Go.Proofs
open Go.RowKit Go.Maps Go.Sort Go.Shelf
set_option linter.unusedVariables false
set_option linter.unusedSimpArgs false
set_option linter.unusedSectionVars false

def Tryz.sortedA_ren : Go.Shelf.Ren := ⟨fun | 6 => 118 | 8 => 188 | 9 => 189 | 11 => 218 | 13 => 220 | 12 => 219 | 23 => 237 | 24 => 238 | 14 => 228 | 15 => 229 | 16 => 230 | 17 => 231 | 18 => 232 | 19 => 233 | 20 => 234 | 21 => 235 | 22 => 236 | 25 => 244 | 26 => 245 | 27 => 246 | 28 => 247 | 29 => 248 | 30 => 249 | 31 => 251 | n => n, fun | 26 => 3 | 28 => 161 | 24 => 23 | 0 => 0 | 3 => 3 | 37 => 179 | 48 => 110 | 50 => 178 | 4 => 4 | 40 => 249 | 39 => 248 | 45 => 158 | 5 => 5 | 9 => 9 | 51 => 263 | 55 => 267 | 57 => 269 | 58 => 270 | 33 => 79 | n => n, fun | n => n⟩
theorem Tryz.sortedA : Go.Proofs.SlLaysZI.n6 Tryz.prog Tryz.sortedA_ren := {
  mixed := by kernel_rfl
  f6 := ⟨Tryz.f118.name, by decide, Tryz.func118.trans (congrArg some (by kernel_rfl))⟩
  f8 := ⟨Tryz.f188.name, by decide, Tryz.func188.trans (congrArg some (by kernel_rfl))⟩
  f11 := ⟨Tryz.f218.name, by decide, Tryz.func218.trans (congrArg some (by kernel_rfl))⟩
  t0 := Tryz.underlying0
  a0 := Tryz.isAgg0
  z0 := Tryz.sizeOf0
  v0 := Tryz.zeroValue0
  t24 := Tryz.underlying23
  a24 := Tryz.isAgg23
  z24 := Tryz.sizeOf23
  v24 := Tryz.zeroValue23
  t26 := Tryz.underlying3
  a26 := Tryz.isAgg3
  z26 := Tryz.sizeOf3
  v26 := Tryz.zeroValue3
  t28 := Tryz.underlying161
  a28 := Tryz.isAgg161
  z28 := Tryz.sizeOf161
  v28 := Tryz.zeroValue161
  i26 := by kernel_rfl }
def Tryz.sortI_ren : Go.Shelf.Ren := ⟨fun | 5 => 189 | 8 => 220 | 7 => 219 | 19 => 237 | 20 => 238 | 10 => 228 | 11 => 229 | 12 => 230 | 13 => 231 | 14 => 232 | 15 => 233 | 16 => 234 | 17 => 235 | 18 => 236 | 30 => 244 | 31 => 245 | 32 => 246 | 33 => 247 | 34 => 248 | 35 => 249 | 40 => 251 | n => n, fun | 23 => 23 | 25 => 3 | 3 => 3 | 32 => 179 | 22 => 23 | 0 => 0 | 44 => 110 | 46 => 178 | 4 => 4 | 36 => 249 | 35 => 248 | 41 => 158 | 5 => 5 | 9 => 9 | 53 => 263 | 57 => 267 | 63 => 269 | 64 => 270 | n => n, fun | n => n⟩
theorem Tryz.sortI : Go.Proofs.SlLaysM.n5 Tryz.prog Tryz.sortI_ren := {
  mixed := by kernel_rfl
  f5 := ⟨Tryz.f189.name, by decide, Tryz.func189.trans (congrArg some (by kernel_rfl))⟩
  f7 := ⟨Tryz.f219.name, by decide, Tryz.func219.trans (congrArg some (by kernel_rfl))⟩
  f8 := Tryz.func220.trans (congrArg some (by kernel_rfl))
  f10 := ⟨Tryz.f228.name, by decide, Tryz.func228.trans (congrArg some (by kernel_rfl))⟩
  f11 := ⟨Tryz.f229.name, by decide, Tryz.func229.trans (congrArg some (by kernel_rfl))⟩
  f12 := ⟨Tryz.f230.name, by decide, Tryz.func230.trans (congrArg some (by kernel_rfl))⟩
  f13 := ⟨Tryz.f231.name, by decide, Tryz.func231.trans (congrArg some (by kernel_rfl))⟩
  f14 := ⟨Tryz.f232.name, by decide, Tryz.func232.trans (congrArg some (by kernel_rfl))⟩
  f15 := ⟨Tryz.f233.name, by decide, Tryz.func233.trans (congrArg some (by kernel_rfl))⟩
  f16 := ⟨Tryz.f234.name, by decide, Tryz.func234.trans (congrArg some (by kernel_rfl))⟩
  f17 := ⟨Tryz.f235.name, by decide, Tryz.func235.trans (congrArg some (by kernel_rfl))⟩
  f18 := ⟨Tryz.f236.name, by decide, Tryz.func236.trans (congrArg some (by kernel_rfl))⟩
  f19 := Tryz.func237.trans (congrArg some (by kernel_rfl))
  f20 := Tryz.func238.trans (congrArg some (by kernel_rfl))
  f30 := ⟨Tryz.f244.name, by decide, Tryz.func244.trans (congrArg some (by kernel_rfl))⟩
  f31 := Tryz.func245.trans (congrArg some (by kernel_rfl))
  f32 := Tryz.func246.trans (congrArg some (by kernel_rfl))
  f33 := ⟨Tryz.f247.name, by decide, Tryz.func247.trans (congrArg some (by kernel_rfl))⟩
  f34 := ⟨Tryz.f248.name, by decide, Tryz.func248.trans (congrArg some (by kernel_rfl))⟩
  f35 := ⟨Tryz.f249.name, by decide, Tryz.func249.trans (congrArg some (by kernel_rfl))⟩
  f40 := ⟨Tryz.f251.name, by decide, Tryz.func251.trans (congrArg some (by kernel_rfl))⟩
  t0 := Tryz.underlying0
  a0 := Tryz.isAgg0
  z0 := Tryz.sizeOf0
  v0 := Tryz.zeroValue0
  t3 := Tryz.underlying3
  a3 := Tryz.isAgg3
  z3 := Tryz.sizeOf3
  v3 := Tryz.zeroValue3
  t4 := Tryz.underlying4
  a4 := Tryz.isAgg4
  z4 := Tryz.sizeOf4
  v4 := Tryz.zeroValue4
  t5 := Tryz.underlying5
  a5 := Tryz.isAgg5
  z5 := Tryz.sizeOf5
  v5 := Tryz.zeroValue5
  t9 := Tryz.underlying9
  a9 := Tryz.isAgg9
  z9 := Tryz.sizeOf9
  v9 := Tryz.zeroValue9
  t22 := Tryz.underlying23
  a22 := Tryz.isAgg23
  z22 := Tryz.sizeOf23
  v22 := Tryz.zeroValue23
  t23 := Tryz.underlying23
  a23 := Tryz.isAgg23
  z23 := Tryz.sizeOf23
  v23 := Tryz.zeroValue23
  t25 := Tryz.underlying3
  a25 := Tryz.isAgg3
  z25 := Tryz.sizeOf3
  v25 := Tryz.zeroValue3
  t32 := Tryz.underlying179
  a32 := Tryz.isAgg179
  z32 := Tryz.sizeOf179
  v32 := Tryz.zeroValue179
  t35 := Tryz.underlying248
  a35 := Tryz.isAgg248
  z35 := Tryz.sizeOf248
  v35 := Tryz.zeroValue248
  t36 := Tryz.underlying249
  a36 := Tryz.isAgg249
  z36 := Tryz.sizeOf249
  v36 := Tryz.zeroValue249
  t41 := Tryz.underlying158
  a41 := Tryz.isAgg158
  z41 := Tryz.sizeOf158
  v41 := Tryz.zeroValue158
  t44 := Tryz.underlying110
  a44 := Tryz.isAgg110
  z44 := Tryz.sizeOf110
  v44 := Tryz.zeroValue110
  t46 := Tryz.underlying178
  a46 := Tryz.isAgg178
  z46 := Tryz.sizeOf178
  v46 := Tryz.zeroValue178
  t53 := Tryz.underlying263
  a53 := Tryz.isAgg263
  z53 := Tryz.sizeOf263
  v53 := Tryz.zeroValue263
  t57 := Tryz.underlying267
  a57 := Tryz.isAgg267
  z57 := Tryz.sizeOf267
  v57 := Tryz.zeroValue267
  t63 := Tryz.underlying269
  a63 := Tryz.isAgg269
  z63 := Tryz.sizeOf269
  v63 := Tryz.zeroValue269
  t64 := Tryz.underlying270
  a64 := Tryz.isAgg270
  z64 := Tryz.sizeOf270
  v64 := Tryz.zeroValue270 }
def Tryz.keysA_ren : Go.Shelf.Ren := ⟨fun | 7 => 191 | 10 => 221 | n => n, fun | 23 => 124 | 26 => 3 | 3 => 9 | 28 => 161 | 0 => 0 | 27 => 160 | 33 => 79 | 4 => 4 | n => n, fun | n => n⟩
theorem Tryz.keysA : Go.Proofs.SlLaysZI.n7 Tryz.prog Tryz.keysA_ren := {
  mixed := by kernel_rfl
  f7 := ⟨Tryz.f191.name, by decide, Tryz.func191.trans (congrArg some (by kernel_rfl))⟩
  f10 := ⟨Tryz.f221.name, by decide, Tryz.func221.trans (congrArg some (by kernel_rfl))⟩
  t0 := Tryz.underlying0
  a0 := Tryz.isAgg0
  z0 := Tryz.sizeOf0
  v0 := Tryz.zeroValue0
  t4 := Tryz.underlying4
  a4 := Tryz.isAgg4
  z4 := Tryz.sizeOf4
  v4 := Tryz.zeroValue4
  t23 := Tryz.underlying124
  a23 := Tryz.isAgg124
  z23 := Tryz.sizeOf124
  v23 := Tryz.zeroValue124
  t26 := Tryz.underlying3
  a26 := Tryz.isAgg3
  z26 := Tryz.sizeOf3
  v26 := Tryz.zeroValue3
  t27 := Tryz.underlying160
  a27 := Tryz.isAgg160
  z27 := Tryz.sizeOf160
  v27 := Tryz.zeroValue160
  t28 := Tryz.underlying161
  a28 := Tryz.isAgg161
  z28 := Tryz.sizeOf161
  v28 := Tryz.zeroValue161
  t33 := Tryz.underlying79
  a33 := Tryz.isAgg79
  z33 := Tryz.sizeOf79
  v33 := Tryz.zeroValue79 }
/-- slices.Sort's two contracts at this program. -/
theorem Tryz.sortsA (m : Nat) : AnyZI.SortsIn Tryz.prog Tryz.sortedA_ren Fence.wide m :=
  ⟨fun blk off cap ss W hH hblk hsz => callsIn_wide.2 (AnyM.slices_Sort_int Tryz.sortI blk off cap ss W hH hblk hsz),
   fun p cap W => callsIn_wide.2 (AnyM.slices_Sort_int_none Tryz.sortI p cap W)⟩

namespace YthbngnlmgplijaaGreatDoor
open Go.Al

theorem cl_ofS {g : FuncId} {args : List Value} {w : World} {R : Ending → World → Prop} {k : KV} (h : Calls Tryz.prog g args.toArray w R) (hk : ∀ e w', R e w' → ∃ v, e = .returned v ∧ k v w') : Cl Tryz.prog g args w k :=
  ⟨h.mono fun e w' he => by obtain ⟨v, rfl, hv⟩ := hk e w' he; exact hv⟩

/-- A map of mine, as the shelf has it: how the values read does not matter. -/
theorem owns_int {β : Type} {kt : TypeId} (hk : Tryz.prog.underlying kt = some (.int .i64)) {w : World} {b : Nat} {vv : β → Value} {D : List (Int × β)} (h : MapAt w b (Value.int .i64) vv D) (hwf : ∀ p ∈ D, (Lit.int .i64 p.1).wf = true) (hsz : D.length ≤ maxLen) :
    ∃ D0 : DataW Unit, w.ownsMap Tryz.prog kt (fun _ => some (.nil, [])) b D.length D0 ∧ (intKeys D0).Perm (D.map (·.1)) ∧ Maps.size D0 = D.length := by
  obtain ⟨es, c, hb, he, hn, hlt⟩ := h.ex
  have hlen : es.size = D.length := by have := congrArg List.length he; simpa using this
  have hkey : ∀ x ∈ es.toList, ∃ p ∈ D, x.key = .int .i64 p.1 := by
    intro x hx
    have : (x.key, x.val) ∈ D.map (fun p => (Value.int .i64 p.1, vv p.2)) := by rw [← he]; exact List.mem_map.2 ⟨x, hx, rfl⟩
    obtain ⟨p, hp, hpe⟩ := List.mem_map.1 this
    simp only [Prod.mk.injEq] at hpe
    exact ⟨p, hp, hpe.1.symm⟩
  have hrd : ∀ x ∈ es.toList, ∀ p : Int × β, p ∈ D → x.key = .int .i64 p.1 → WideElems.rd (H := Unit) Tryz.prog kt (fun _ => some (.nil, [])) x = some (.int .i64 p.1, .nil) := by
    intro x hx p hp hxp
    unfold WideElems.rd
    rw [hxp, Maps.keyOf_int_mk hk (hwf p hp)]
    rfl
  have hks : es.toList.map (·.key) = D.map (fun p => Value.int .i64 p.1) := by
    have := congrArg (List.map Prod.fst) he
    simpa [List.map_map, Function.comp_def] using this
  have hF : WideElems.Fit (H := Unit) Tryz.prog kt (fun _ => some (.nil, [])) es c := by
    refine ⟨by omega, ⟨hlt, hn, ?_⟩, fun x hx => ?_⟩
    · rw [hks]
      have := h.keys
      rw [List.Nodup, List.pairwise_map] at this ⊢
      exact this.imp fun hne e => hne (by simpa using e)
    · obtain ⟨p, hp, hxp⟩ := hkey x hx
      exact ⟨_, hrd x hx p hp hxp⟩
  refine ⟨_, ⟨es, c, hb, hF, by omega, rfl⟩, ?_, ?_⟩
  · have h1 : (((es.toList.map (WideElems.rg (H := Unit) Tryz.prog kt (fun _ => some (.nil, [])))).foldr DataW.insert []).map fun p => Go.intOf p.1).Perm ((es.toList.map (WideElems.rg (H := Unit) Tryz.prog kt (fun _ => some (.nil, [])))).map fun p => Go.intOf p.1) := (WideShapes.sorted_perm _).map _
    have h2 : ((es.toList.map (WideElems.rg (H := Unit) Tryz.prog kt (fun _ => some (.nil, [])))).map fun p => Go.intOf p.1) = D.map (·.1) := by
      rw [List.map_map]
      have h3 : D.map (·.1) = (es.toList.map (·.key)).map (fun v => match v with | .int _ x => x | _ => 0) := by
        rw [hks, List.map_map]; rfl
      rw [h3, List.map_map]
      refine List.map_congr_left fun x hx => ?_
      obtain ⟨p, hp, hxp⟩ := hkey x hx
      simp only [Function.comp_apply, WideElems.rg, hrd x hx p hp hxp, hxp, Option.getD_some, Go.intOf]
    show (List.map _ _).Perm _
    rw [← h2]; exact h1
  · show List.length _ = _
    rw [(WideShapes.sorted_perm _).length_eq, List.length_map]
    simpa using hlen

/-- maps.Keys: the closure. -/
theorem keysA_spec (mb : Option Nat) (w : World) : Cl Tryz.prog 191 [.map mb] w fun v w' => v = .func (.func 221) #[] #[.pointer (some ⟨w.heap.size, 0, none⟩)] ∧ w' = w.alloc (.cells #[.map mb] 124) := by
  have c : CallsIn Fence.wide 5 Tryz.prog 191 #[.map mb] w fun e w' => e = .returned (.func (.func 221) #[] #[.pointer (some ⟨w.heap.size, 0, none⟩)]) ∧ w' = w.alloc (.cells #[.map mb] 124) := AnyZI.keys_in Tryz.keysA Fence.wide 5 trivial rfl mb w
  exact cl_ofS (callsIn_wide.1 c) fun e w' ⟨h1, h2⟩ => ⟨_, h1, rfl, h2⟩
/-- slices.Sorted of a map's keys. -/
theorem sorted_of (g c : Nat) (hg : ∀ args w, (callFunc g args).run Tryz.prog w = .ok (.enter g args) w) (S : List Int → Prop) (N : Nat) (hNb : N * 8 ≤ 140737488355328) (w : World) (h : SeqGives Fence.wide 2 Tryz.prog g #[.pointer (some ⟨c, 0, none⟩)] encZ S N w) :
    Cl Tryz.prog 118 [.func (.func g) #[] #[.pointer (some ⟨c, 0, none⟩)]] w fun v w' => ∃ ss, S ss ∧ w'.ownsRow w.heap.size 3 1 v ss.length ((ss.mergeSort (fun x y => decide (x ≤ y))).map encZ) ∧ (v = .slice none 0 0 ↔ ss = []) ∧ Below w.heap.size w w' := by
  have cS := AnyZI.sorted_in Tryz.sortedA Fence.wide 5 trivial trivial trivial trivial rfl (by omega) (Tryz.sortsA _) (enters_of Tryz.func189 (by kernel_rfl) rfl) g #[.pointer (some ⟨c, 0, none⟩)] trivial hg S N (by unfold maxLen; omega) hNb w h
  change CallsIn _ _ Tryz.prog 118 _ _ _ at cS
  exact cl_ofS (callsIn_wide.1 cS) fun e w' ⟨v, ss, h1, h2, h3, h4, h5⟩ => ⟨v, h1, ss, h2, h3, h4, h5⟩

/-- The keys of a map, by their order. -/
def sortK {β : Type} (D : List (Int × β)) : List Int := (D.map (·.1)).mergeSort (fun x y => decide (x ≤ y))

theorem sortedA_spec {β : Type} {w : World} {b : Nat} {vv : β → Value} {D : List (Int × β)} (h : MapAt w b (Value.int .i64) vv D) (hwf : ∀ p ∈ D, (Lit.int .i64 p.1).wf = true) (hsz : D.length * 8 ≤ 140737488355328) :
    Cl Tryz.prog 118 [.func (.func 221) #[] #[.pointer (some ⟨w.heap.size, 0, none⟩)]] (w.alloc (.cells #[.map (some b)] 124)) fun v w' => w'.ownsRow w.heap.size 3 1 v D.length ((sortK D).map encZ) ∧ (v = .slice none 0 0 ↔ D = []) ∧ Fm (fun _ => False) w w' := by
  have hm : D.length ≤ maxLen := by unfold maxLen; omega
  obtain ⟨D0, hown, hp, hs⟩ := owns_int (kt := 3) (by kernel_rfl) h hwf hm
  have hbl := hown.lt
  have hseq : SeqGives Fence.wide 2 Tryz.prog 221 #[.pointer (some ⟨w.heap.size, 0, none⟩)] encZ (fun ss => ss.Perm (intKeys D0)) (Maps.size D0) (w.alloc (.cells #[.map (some b)] 124)) :=
    AnyZI.keys_gives (ρ := Tryz.keysA_ren) { Tryz.keysA with } Fence.wide _ trivial rfl (by omega) w.heap.size b D.length D0 _ (by simp) (by simp) (by
      obtain ⟨es, clock, hb, Ft, hs, hD⟩ := hown
      exact ⟨es, clock, (Below.heap_alloc _ _ b hbl).trans hb, Ft, hs, hD⟩)
  refine (sorted_of 221 _ (enters_of Tryz.func221 (by kernel_rfl) rfl) _ _ (by omega) _ hseq).mono ?_
  rintro v w' ⟨ss, hS, hrow, hnil, hb⟩
  have hperm : ss.Perm (D.map (·.1)) := hS.trans hp
  have hl : ss.length = D.length := by simpa using hperm.length_eq
  refine ⟨?_, ?_, ?_⟩
  · have := ownsRow_base_a hrow (show w.heap.size ≤ _ by simp)
    rw [hl] at this
    rw [sortK, ← mergeSort_of_perm_i hperm]; exact this
  · rw [hnil]
    constructor
    · intro e; rw [e] at hl; exact List.eq_nil_of_length_eq_zero hl.symm
    · intro e; rw [e] at hl; exact List.eq_nil_of_length_eq_zero hl
  · exact (Fm.alloc _ _ _).trans (Fm.of_below hb _) (fun _ _ h => h) (fun _ _ h => h)
end YthbngnlmgplijaaGreatDoor
end Go.Proofs

namespace Go.Proofs.YthbngnlmgplijaaGreatDoor
open Go.Al Go.Proofs
set_option linter.unusedVariables false
set_option linter.unusedSimpArgs false
set_option linter.unusedSectionVars false

theorem bld127 (z : Int) (w : World) : (Instr.build 163 #[(0, iv 0), (1, iv 64), (2, iv z)]).run Tryz.prog w = .ok (.agg #[iv 0, iv 64, iv z]) w := by kernel_rfl
theorem dpend_spec {w : World} {b g m : Nat} {d : Dk} (h : DAt w b g m d) : Cl Tryz.prog 120 [pv b] w fun v w' => w'.ownsRow w.heap.size 3 1 v d.pend.length (d.pend.map fun i => iv (i : Nat)) ∧ (v = .slice none 0 0 ↔ d.pend = []) ∧ Fm (fun _ => False) w w' := by
  have hn := h.wf.n1
  obtain ⟨M, hM, hi⟩ := h.mp
  have hmem : ∀ k, k ∈ M.map (·.1) ↔ k ∈ d.pend.map fun i : Nat => (i : Int) := by
    intro k
    rw [List.mem_map, List.mem_map]
    constructor
    · rintro ⟨⟨k', x⟩, hp, rfl⟩
      obtain ⟨i, rfl, hc, _⟩ := (hi _ _).1 hp
      exact ⟨i, (Dk.pend_mem h.wf).2 hc, rfl⟩
    · rintro ⟨i, hp, rfl⟩
      have hc := (Dk.pend_mem h.wf).1 hp
      have hlt : i < d.old.length := by rw [h.wf.lo, ← h.wf.lc]; exact Dk.isC_lt hc
      exact ⟨((i : Int), d.old[i]), (hi _ _).2 ⟨i, rfl, hc, List.getElem?_eq_getElem hlt⟩, rfl⟩
  have hpr : (d.pend.map fun i : Nat => (i : Int)).Pairwise (· < ·) := by
    rw [List.pairwise_map]
    exact (Dk.pend_rises d).imp fun h => by omega
  have hsk : sortK M = d.pend.map fun i : Nat => (i : Int) := by
    refine Dk.rising_eq ?_ hpr ?_
    · have h1 : (sortK M).Pairwise (fun x y => decide (x ≤ y) = true) := List.pairwise_mergeSort (fun a b c h1 h2 => by simp at *; omega) (fun a b => by simp; omega) _
      have h2 : (sortK M).Nodup := by rw [sortK]; exact (List.mergeSort_perm _ _).nodup_iff.2 hM.keys
      exact (h1.and h2).imp fun ⟨h, hn⟩ => by simp at h; omega
    · intro x
      rw [← hmem]
      unfold sortK
      exact List.mem_mergeSort
  have hlen : M.length = d.pend.length := by
    have := congrArg List.length hsk
    rw [sortK, List.length_mergeSort, List.length_map, List.length_map] at this
    exact this
  have hpl := Dk.pend_len d
  have hwf : ∀ p ∈ M, (Lit.int .i64 p.1).wf = true := by
    rintro ⟨k, x⟩ hp
    obtain ⟨i, rfl, hc, _⟩ := (hi _ _).1 hp
    have := Dk.isC_lt hc
    rw [h.wf.lc] at this
    show (decide (-9223372036854775808 ≤ (i : Int)) && decide ((i : Int) ≤ 9223372036854775807)) = true
    simp; omega
  refine c120 ?_; unfold T120
  simp only [RS0, RS1, RS2, RS3, RS4, RS5, h.c1]
  refine (keysA_spec (some m) w).mono ?_
  rintro _ _ ⟨rfl, rfl⟩
  refine (sortedA_spec hM hwf (by omega)).mono ?_
  rintro v w' ⟨h1, h2, h3⟩
  rw [hlen, hsk] at h1
  refine ⟨?_, ?_, h3⟩
  · rw [List.map_map] at h1; exact h1
  · rw [h2, ← List.length_eq_zero_iff, hlen, List.length_eq_zero_iff]
theorem ixG_kept {f : Int} (h : 0 ≤ f) : ixG false 3 1 (.agg #[iv 0, iv 64, iv (f / 3 % 65)]) (iv (f % 3)) = some (iv (Dk.kept f : Nat)) := by
  have h1 : f % 3 = 0 ∨ f % 3 = 1 ∨ f % 3 = 2 := by omega
  unfold Dk.kept
  rcases h1 with h1 | h1 | h1
  · rw [h1]; rfl
  · rw [h1]; rfl
  · rw [h1]
    have : 0 ≤ f / 3 % 65 := by omega
    show some (iv (f / 3 % 65)) = _
    rw [if_neg (by decide), if_neg (by decide), Int.toNat_of_nonneg this]
theorem max2_fold {f : Int} : max2V (iv f) (iv (-(f + 1))) = some (iv (Dk.fold1 f)) := by
  show some (iv (if -(f + 1) > f then -(f + 1) else f)) = _
  unfold Dk.fold1
  congr 2
  split <;> split <;> omega

set_option maxHeartbeats 1000000 in
theorem dcrash_spec {w : World} {b g m : Nat} {d : Dk} (h : DAt w b g m d) {hv : Value} {L : List Int} (hL : CellsAt w hv L.length 1 (L.map iv)) (hLb : L ≠ [] → ∀ q, blockOf hv = some q → q ≠ b ∧ q ≠ g ∧ q ≠ m)
    (hr : ∀ f ∈ L, -9223372036854775808 ≤ f ∧ f ≤ 9223372036854775807) :
    Cl Tryz.prog 46 [pv b, hv] w fun v w' => v = .tuple #[] ∧ DAt w' b g m (d.crash L) ∧ Fm (fun x => x = b ∨ x = g ∨ x = m) w w' := by
  have hn := h.wf.n1
  refine c46 ?_; unfold T46
  simp only [RS0, RS1, RS2, RS3, RS4, RS5]
  refine (dpend_spec h).mono ?_
  rintro pv' w3 ⟨hrow, hnil, hf3⟩
  have h3 := h.keep0 hf3
  have hlt := h.lt
  have hplen := own_len hrow
  have hpl := Dk.pend_len d
  simp only [RS0, RS1, RS2, RS3, RS4, RS5, hplen]
  refine ⟨fun vs w2 => ∃ k : Nat, vs = [iv k] ∧ k ≤ d.pend.length ∧ DAt w2 b g m (d.mid L k) ∧ Fm (fun x => x = b ∨ x = g ∨ x = m) w3 w2, fun vs _ => (d.pend.length - nth vs 0).toNat, ⟨0, rfl, by omega, by rw [Dk.mid_zero]; exact h3, Fm.refl _ _⟩, ?_⟩
  rintro _ w2 ik ⟨k, hvs, hk, hE, hf⟩
  cases hvs
  have hF : Fm (fun x => x = b ∨ x = g ∨ x = m) w w2 := hf3.trans hf (fun _ _ e => e.elim) (fun _ _ e => e)
  have hln := Dk.mid_len L d k
  by_cases hlt2 : k < d.pend.length
  · have e1 : decide ((k : Int) < (d.pend.length : Int)) = true := by simpa using hlt2
    have hPk : d.pend[k]? = some d.pend[k] := List.getElem?_eq_getElem hlt2
    generalize d.pend[k] = i at hPk
    obtain ⟨hi1, hi2, hi3, hi4⟩ := Dk.mid_step (how := L) hPk
    have hrow2 := own_keep hrow hf (fun q hq _ _ => by omega)
    obtain ⟨ad, hix, _, hc⟩ := (CellsAt.of_own hrow2).at1 (i := k) (x := iv (i : Nat)) (by rw [List.getElem?_map, hPk]; rfl) .i64
    simp only [RS0, RS1, RS2, RS3, RS4, RS5, e1, hix, hc]
    refine Jn_at (fun vs w4 => vs = [iv (Dk.fate L k)] ∧ (w4 = w2 ∨ w4 = w2.drew)) ?_ ?_
    · rintro _ w4 ⟨rfl, hw4⟩ _
      refine ⟨_, rfl, ?_⟩
      have hF4 : Fm (fun _ => False) w2 w4 := by rcases hw4 with rfl | rfl; exact Fm.refl _ _; exact Fm.drew _ _
      have hE4 := hE.keep0 hF4
      clear hw4
      have hfp := Dk.fate_pos hr k
      generalize hfe : Dk.fate L k = f at hfp hi4
      have q1 := quo_pos (TypeDesc.int IntKind.i64) (a := f) (b := 3) hfp.1 (by decide) hfp.2
      have q2 := rem_pos (TypeDesc.int IntKind.i64) (a := f / 3) (b := 65) (by omega) (by decide) (by omega)
      have q3 := rem_pos (TypeDesc.int IntKind.i64) (a := f) (b := 3) hfp.1 (by decide) hfp.2
      have q4 := ixG_kept hfp.1
      simp only [RS0, RS1, RS2, RS3, RS4, RS5, q1, q2]
      refine RunS_ok (bld127 _ _) ?_
      simp only [RS0, RS1, RS2, RS3, RS4, RS5, q3, q4]
      have hkl := Dk.kept_le f
      obtain ⟨M, hM, hmem⟩ := hE4.mp
      have hil : i < d.old.length := by rw [h.wf.lo]; exact hi1
      have hold : d.old[i]? = some (d.old.getD i []) := Dk.getD_eq hil
      have hget : getD M (i : Int) = some (d.old.getD i []) := (getD_some hM.keys).2 ((hmem _ _).2 ⟨i, rfl, hi3, hold⟩)
      have ho64 := h.wf.old64 hi1
      refine ⟨fun w' => w'.cell? ⟨b, 1, none⟩ = some (.map (some m)) ∧ MapAt w' m iv stv M, ⟨hE4.c1, hM.keep (Fm.drew (fun _ => False) w4) (fun e => e)⟩, ?_⟩
      refine ⟨.map (some m), fun w' hw' => by simp only [RS0, RS1, RS2, RS3, RS4, RS5, hw'.1]; exact ⟨(by trivial), (by trivial)⟩, ?_⟩
      refine ⟨stv (d.old.getD i []), fun w' hw' => ?_, ?_⟩
      · refine RunS_ok (lookup_run K118 hw'.2 (i : Int) false (z9 _)) ?_
        simp only [hget, okV, cond_false]
        exact ⟨(by trivial), (by trivial)⟩
      have hsl := slS_lo (l := d.old.getD i []) (i := Dk.kept f) (by omega) .i64
      simp only [RS0, RS1, RS2, RS3, RS4, RS5, hsl]
      have hE4d := hE4.drew
      refine (dsector_spec hE4d (by rw [hln]; exact hi1)).mono ?_
      rintro _ _ ⟨rfl, rfl⟩
      refine ⟨⟨hE4.c1, hM.keep (Fm.drew (fun _ => False) w4) (fun e => e)⟩, ?_⟩
      have hfl := Dk.flat_len hE4.wf.s1
      rw [hln] at hfl ⊢
      obtain ⟨o', hs, ho, hole⟩ := slV_lo1 (g := g) (o := 64 * i) (n := 64) (c := 64 * d.cur.length - 64 * i) (i := Dk.kept f) hkl (by omega) .i64
      simp only [RS0, RS1, RS2, RS3, RS4, RS5, hs]
      have hxl : ((d.old.getD i []).drop (Dk.kept f)).length = 64 - Dk.kept f := by rw [List.length_drop]; omega
      obtain ⟨w5, hr5, hby5, hs5, hf5⟩ := hE4d.by_.copyS B44 (o := o') (n := 64 - Dk.kept f) (x := (d.old.getD i []).drop (Dk.kept f)) (by omega) (by rw [hfl]; omega) (64 * d.cur.length - 64 * i - Dk.kept f) 3
      refine RunS_ok hr5 ?_
      have hf25 : Fm (· = g) w4 w5 := (Fm.drew (fun _ => False) w4).trans hf5 (fun _ _ e => e.elim) (fun _ _ e => e)
      have hrow5 : BRow w5 g 5 (Dk.mid L d (k + 1)).cur.flatten := by
        rw [hi4]
        by_cases hk64 : Dk.kept f < 64
        · have ho' := ho (by omega)
          rw [hxl, ho', show 64 * i + Dk.kept f + (64 - Dk.kept f) = 64 * i + 64 by omega, Dk.flat_lay hE4.wf.s1 (by rw [hln]; exact hi1) hkl hxl, hi2] at hby5
          exact hby5
        · have hke : Dk.kept f = 64 := by omega
          have hx0 : (d.old.getD i []).drop (Dk.kept f) = [] := List.eq_nil_of_length_eq_zero (by rw [hxl]; omega)
          rw [hx0] at hby5
          simp only [List.append_nil, List.length_nil, Nat.add_zero, List.take_append_drop] at hby5
          have : Dk.torn f (d.cur.getD i []) (d.old.getD i []) = (Dk.mid L d k).cur.getD i [] := by
            rw [Dk.torn, hx0, hke, List.append_nil, hi2, List.take_of_length_le (by rw [h.wf.cur64 hi1]; omega)]
          rw [this]
          have hset : (Dk.mid L d k).cur.set i ((Dk.mid L d k).cur.getD i []) = (Dk.mid L d k).cur := by
            apply List.ext_getElem?
            intro j
            rw [List.getElem?_set]
            split
            · rename_i e; subst e; rw [if_pos (by rw [hln]; exact hi1)]; exact (Dk.getD_eq (by rw [hln]; exact hi1)).symm
            · rfl
          rw [hset]; exact hby5
      have hM5 := hM.keep hf25 (fun e => hE4.gm e.symm)
      have hst5 := hf25.heap hE4.st hE4.bg
      have g4 : IntKind.i64.wrap ((k : Int) + 1) = ((k + 1 : Nat) : Int) := by rw [wrap_id] <;> omega
      simp only [RS0, RS1, RS2, RS3, RS4, RS5, g4]
      refine ⟨⟨k + 1, rfl, by omega, ⟨h.wf.mid L (k + 1), ?_, hrow5, M, hM5, hmem⟩, ?_⟩, by simp only [nth_0]; omega⟩
      · rw [hln] at hst5
        rw [Dk.mid_len]; exact hst5
      · exact (hf.trans hF4 (U := fun x => x = b ∨ x = g ∨ x = m) (fun _ _ e => e) (fun _ _ e => e.elim)).trans hf25 (fun _ _ e => e) (fun _ _ e => .inr (.inl e))
    · intro kk hkk
      have hL2 := hL.keepAny hF (fun hx q hq => by have := hLb (fun e => hx (by rw [e]; rfl)) q hq; omega)
      simp only [RS0, RS1, RS2, RS3, RS4, RS5, hL2.lenV]
      by_cases hkL : k < L.length
      · have e2 : decide ((k : Int) < (L.length : Int)) = true := by simpa using hkL
        have hLk : L[k]? = some L[k] := List.getElem?_eq_getElem hkL
        have hin := hr _ (List.getElem_mem hkL)
        generalize L[k] = f at hLk hin
        obtain ⟨ad2, hix2, _, hc2⟩ := hL2.at1 (i := k) (x := iv f) (by rw [List.getElem?_map, hLk]; rfl) .i64
        have hfa : Dk.fate L k = Dk.fold1 f := by unfold Dk.fate; rw [hLk]
        simp only [RS0, RS1, RS2, RS3, RS4, RS5, e2, hix2, hc2, xor_i64 hin, foldV0, foldV, max2_fold, Option.bind_some, true_and]
        exact hkk _ _ ⟨by rw [hfa], .inr rfl⟩
      · have e2 : decide ((k : Int) < (L.length : Int)) = false := by simpa using hkL
        have hfa : Dk.fate L k = 0 := by unfold Dk.fate; rw [List.getElem?_eq_none (by omega)]
        simp only [RS0, RS1, RS2, RS3, RS4, RS5, e2]
        exact hkk _ _ ⟨by rw [hfa], .inl rfl⟩
  · have hke : k = d.pend.length := by omega
    subst hke
    have e1 : decide ((d.pend.length : Int) < (d.pend.length : Int)) = false := by simp
    simp only [RS0, RS1, RS2, RS3, RS4, RS5, e1, hE.c1]
    obtain ⟨M, hM, _⟩ := hE.mp
    obtain ⟨w4, hr4, hM4, hf4, _⟩ := clear_map Tryz.underlying124 hM 0
    refine RunS_ok hr4 ?_
    have hst4 := hf4.heap hE.st hE.bm
    refine St_blk hst4 (by simp) rfl ?_
    intro w5 hw5 hs5 hf5
    refine St_blk hw5 (by simp) rfl ?_
    intro w6 hw6 hs6 hf6
    have hlen : (Dk.mended L d).length = d.cur.length := Dk.mended_len L d
    have hby6 := ((hE.by_.keep hf4 hE.gm).keep hf5 (fun e => hE.bg e.symm)).keep hf6 (fun e => hE.bg e.symm)
    rw [Dk.mid_end] at hby6
    have hM6 := (hM4.keep hf5 (fun e => hE.bm e.symm)).keep hf6 (fun e => hE.bm e.symm)
    have hF6 : Fm (fun x => x = b ∨ x = g ∨ x = m) w w6 := ((hF.trans hf4 (U := fun x => x = b ∨ x = g ∨ x = m) (fun _ _ e => e) (fun _ _ e => .inr (.inr e))).trans hf5 (U := fun x => x = b ∨ x = g ∨ x = m) (fun _ _ e => e) (fun _ _ e => .inl e)).trans hf6 (fun _ _ e => e) (fun _ _ e => .inl e)
    refine ⟨(by trivial), ⟨h.wf.crash L, ?_, hby6, [], hM6, ?_⟩, hF6⟩
    · rw [hln] at hw6
      show w6.heap[b]? = some (.cells #[.slice (some ⟨g, 0, none⟩) (64 * (Dk.mended L d).length) (64 * (Dk.mended L d).length), .map (some m), iv 0, .bool false, iv d.done] 126)
      rw [hlen]; exact hw6
    · intro k x
      constructor
      · intro e; cases e
      · rintro ⟨i, _, hc, _⟩
        have := Dk.isC_rep d.cur.length i
        rw [show (d.crash L).chg = List.replicate d.cur.length false from rfl, this] at hc; cases hc
end Go.Proofs.YthbngnlmgplijaaGreatDoor

namespace Go.Proofs.YthbngnlmgplijaaGreatDoor
open Go.Al Go.Proofs
set_option linter.unusedVariables false
set_option linter.unusedSimpArgs false
set_option linter.unusedSectionVars false
set_option maxRecDepth 100000

theorem Sys.dcrash {w0 w : World} {Y : Nat → Prop} {pb lb db : Nat} {s : PS} (h : Sys w0 w Y pb lb db s) {hv : Value} {L : List Int} (hL : CellsAt w0 hv L.length 1 (L.map iv)) (hr : ∀ f ∈ L, -9223372036854775808 ≤ f ∧ f ≤ 9223372036854775807) :
    Cl Tryz.prog 46 [pv db, hv] w fun v w' => (∃ Y', Sys w0 w' Y' pb lb db ⟨s.p, s.l, s.d.crash L⟩ ∧ Gr w Y Y') ∧ Fm Y w w' := by
  obtain ⟨Xl, Xp, Q, g, m, fb, ob, F, h1, h2⟩ := h.ex
  have hb1 := (h.ge _ (h2 _ (.inr (.inr (.inl rfl))))).1
  have hb2 := (h.ge _ (h2 _ (.inr (.inr (.inr (.inl rfl)))))).1
  have hb3 := (h.ge _ (h2 _ (.inr (.inr (.inr (.inr rfl)))))).1
  refine (dcrash_spec h1.hD (hL.keep h.fm (fun _ _ e => e)) (fun hne q hq => ?_) hr).mono ?_
  · have := hL.blt (fun e => hne (List.map_eq_nil_iff.1 e)) q hq
    refine ⟨?_, ?_, ?_⟩ <;> omega
  rintro v w' ⟨_, hd, hf⟩
  obtain ⟨h3, hf3⟩ := h1.disk hd hf
  exact h.step h1 h2 h3 (fun y e => .inl e) (fun y e => .inl e) hf3
theorem ints_in {w : World} {v : Value} {xs : List Int} (h : SliceAs vI w v xs) : ∀ f ∈ xs, -9223372036854775808 ≤ f ∧ f ≤ 9223372036854775807 := by
  intro f hf
  obtain ⟨i, hi⟩ := List.getElem?_of_mem hf
  obtain ⟨ad, cs', _, hr, _⟩ := h.at hi (c := 1) (by kernel_rfl) .i64
  exact i64_of_wf hr.2
def owB (s : PS) (n : Nat) : Bool := !(getD s.p.owed (n : Int)).isNone
set_option maxHeartbeats 16000000 in
theorem powes_law {w : World} {v hv0 : Value} {xs : List OpP} {L : List Int} (frames : Int) (hv : SliceAs vOpP w v xs) (hL : CellsAt w hv0 L.length 1 (L.map iv)) (hLr : ∀ f ∈ L, -9223372036854775808 ≤ f ∧ f ≤ 9223372036854775807) : Cl Tryz.prog 10 [iv frames, v, hv0] w fun r w' => r = .bool true ∧ Fm (fun _ => False) w w' := by
  have hlx := hv.len
  unfold maxLen at hlx
  have hlv : lenV v = some (iv (xs.length : Int)) := hv.lenV
  refine c10 ?_; unfold T10
  refine (dnew_spec w 2000).mono ?_
  rintro _ w1 ⟨_, h3⟩
  obtain ⟨b, g, m, rfl, hb, hg, hm, hd, hf1⟩ := h3 (by omega)
  clear h3
  have hlt := hd.lt
  change DAt w1 b g m (Dk.mk0 2000) at hd
  simp only [RS0, RS1, RS2, RS3, RS4, RS5, bne_refl0]
  refine (wformat_spec hd ((0 : Nat) : Int) ((200 : Nat) : Int)).mono ?_
  rintro _ w2 ⟨p, rfl, hd2, hf2, _, h3⟩
  obtain ⟨lb, X, rfl, hL2, hX⟩ := h3 lawD_ok
  rw [lawD_ok]
  change DAt w2 b g m lawD at hd2
  simp only [Int.toNat_natCast] at hL2
  have hF2 : Fm (fun _ => False) w w2 := Fm.own hf1 hf2 (by rintro y (rfl | rfl | rfl) <;> assumption)
  have z1 := hf1.size
  obtain ⟨fn, hfn, ma, mb, m1, m2, m3, m4⟩ := mod6 frames
  simp only [RS0, RS1, RS2, RS3, RS4, RS5, m1, m2, m3, m4]
  refine (pnew_spec hd2 lb ((200 : Nat) : Int) ((12 : Nat) : Int) ((fn + 1 : Nat) : Int) (by unfold In; omega)).mono ?_
  rintro _ w3 ⟨hf3, hc⟩
  rcases hc with ⟨e, _⟩ | ⟨_, pb, fb, ob, Xp, F, rfl, hP, hwf, hXp⟩
  · rw [law_nb (by omega) (by omega)] at e; cases e
  have hF3 := Fmf hF2 hf3
  obtain ⟨Y, hS⟩ := Sys.made (w0 := w) hd2 ⟨⟨hb, hg, hm⟩, hlt⟩ hL2 hX z1 hf3 hP hXp hwf hF3
  clear hP hL2 hd2 hX hXp h3
  simp only [RS0, RS1, RS2, RS3, RS4, RS5, bne_refl0]
  refine RunS_ok (made61 w3 12 (by omega)) ?_
  have hf4 := Fm.alloc (fun _ => False) w3 (.cells ((List.replicate 12 (pg0, nlv)).flatMap lpC).toArray 61)
  have hn4 := alloc_new w3 (.cells ((List.replicate 12 (pg0, nlv)).flatMap lpC).toArray 61)
  have hs4 := alloc_size w3 (.cells ((List.replicate 12 (pg0, nlv)).flatMap lpC).toArray 61)
  generalize w3.alloc (.cells ((List.replicate 12 (pg0, nlv)).flatMap lpC).toArray 61) = w4 at hf4 hn4 hs4
  refine RunS_ok (made4 w4 12 (by omega)) ?_
  have hf5 := Fm.alloc (fun _ => False) w4 (.cells (List.replicate 12 (Value.bool false)).toArray 4)
  have hn5 := alloc_new w4 (.cells (List.replicate 12 (Value.bool false)).toArray 4)
  have hs5 := alloc_size w4 (.cells (List.replicate 12 (Value.bool false)).toArray 4)
  generalize w4.alloc (.cells (List.replicate 12 (Value.bool false)).toArray 4) = w5 at hf5 hn5 hs5
  have z3 := hF3.size
  have hK0 : KS w w5 Y pb lb b w3.heap.size w4.heap.size (lawS (fn + 1)) (fun _ => none) :=
    ⟨(hS.keep0 hf4).keep0 hf5, LastAt.new (hf5.heap hn4 (fun e => e)) hn5 (by omega) ⟨by omega, by omega⟩, lawS_good (by omega), ⟨fun e => by have := (hS.ge _ e).2; omega, fun e => by have := (hS.ge _ e).2; omega⟩, ⟨rfl, rfl⟩⟩
  generalize w3.heap.size = xl at hK0
  generalize w4.heap.size = xi at hK0
  refine ⟨fun vs w' => ∃ (i : Nat) (Y : Nat → Prop) (s : PS) (lst : Nat → Option Pg), vs = [iv (i : Int)] ∧ i ≤ xs.length ∧ KS w w' Y pb lb b xl xi s lst, fun vs _ => (xs.length - nth vs 0).toNat, ⟨0, Y, _, _, rfl, by omega, hK0⟩, ?_⟩
  clear hK0 hS hF3 hF2 hf1 hf2 hf3 hf4 hf5 hn4 hn5 hs4 hs5 hd hb hg hm hlt m1 m2 m3 m4 z1 z3
  rintro _ w6 ivv ⟨i, Y, s, lst, hvs, hi, hK⟩
  cases hvs
  by_cases hc : i < xs.length ∧ i < 200
  · obtain ⟨hl, h200⟩ := hc
    have d1 : decide ((i : Int) < (xs.length : Int)) = true := by rw [decide_eq_true_eq]; omega
    have d2 : decide ((i : Int) < 200) = true := by rw [decide_eq_true_eq]; omega
    have ei : IntKind.i64.wrap ((i : Int) + 1) = ((i + 1 : Nat) : Int) := by rw [wrap_id] <;> omega
    have hx : xs[i]? = some xs[i] := List.getElem?_eq_getElem hl
    generalize xs[i] = o at hx
    obtain ⟨ad, u, hix, hcv, hIn, ho1, ho2, ho3⟩ := opP_ld hv hx
    have hu1 := hIn.isA.u1
    have hcv7 := cellsV_keep hcv hK.S.fm (fun e => e)
    simp only [RS0, RS1, RS2, RS3, RS4, RS5, hlv, d1, d2]
    refine Jn_at (fun vs w' => vs = [] ∧ ∃ (Y : Nat → Prop) (s : PS) (lst : Nat → Option Pg), KS w w' Y pb lb b xl xi s lst) ?_ ?_
    · rintro _ w10 ⟨rfl, Y, s, lst, hK⟩ _
      refine ⟨rfl, ?_⟩
      simp only [RS0, RS1, RS2, RS3, RS4, RS5, ei]
      exact ⟨⟨i + 1, Y, s, lst, rfl, by omega, hK⟩, by simp only [nth_0]; omega⟩
    intro jj hjj
    simp only [RS0, RS1, RS2, RS3, RS4, RS5, hix, hcv7]
    refine New_any ?_
    intro x14 w8 hx14 hs8 hw8 hf8
    refine St_all hw8 rfl rfl (opc_one hu1) ?_
    intro w9 hw9 hs9 hf9
    have hF9 : Fm (fun _ => False) w6 w9 := Fm.own hf8 hf9 (by rintro y rfl; omega)
    have hK9 := hK.keep0 hF9
    have hO9 : OB w9 x14 o u := ⟨hw9⟩
    have hll := hK.L.lt
    have hn9 : ¬ Y x14 ∧ x14 ≠ xl ∧ x14 ≠ xi := ⟨fun e => by have := (hK.S.ge _ e).2; omega, by omega, by omega⟩
    obtain ⟨n, hn, na, nb, n1, n2, n3⟩ := mod12 o.2.1
    simp only [RS0, RS1, RS2, RS3, RS4, RS5, hO9.c1, n1, n2, n3, hO9.c0, beq_dec]
    cases q0 : decide (o.1 = 0) with
    | true =>
      simp only [RS0, RS1, RS2, RS3, RS4, RS5, hO9.c2]
      refine (hK9.fetch hn o.2.2.1).mono ?_
      rintro _ w10 ⟨ua, r, rfl, _, _, ⟨Y', s', h1, hG⟩, hf⟩
      exact hjj _ _ ⟨rfl, Y', s', lst, h1⟩
    | false =>
    cases q1 : decide (o.1 = 1) with
    | true =>
      simp only [RS0, RS1, RS2, RS3, RS4, RS5, beq_dec, q1]
      have hh := set_op (K := fun w' => jj [] w') hK9 hn hO9 hIn.isA hn9 (fun w' Y' s' lst' h1 h2 h3 => hjj _ _ ⟨rfl, Y', s', lst', h1⟩)
      simp only [RS0, RS1, RS2, RS3, RS4, RS5] at hh
      exact hh
    | false =>
      cases q2 : decide (o.1 = 2) with
      | true =>
        simp only [RS0, RS1, RS2, RS3, RS4, RS5, beq_dec, q1, q2]
        refine (hK9.write hn).mono ?_
        rintro _ w10 ⟨rfl, ⟨Y', s', h1, hG⟩, hf⟩
        exact hjj _ _ ⟨rfl, Y', s', lst, h1⟩
      | false =>
        cases q3 : decide (o.1 = 3) with
        | true =>
          simp only [RS0, RS1, RS2, RS3, RS4, RS5, beq_dec, q1, q2, q3]
          exact hK9.sync (fun w' Y' s' h1 hG hf => hjj _ _ ⟨rfl, Y', s', lst, h1⟩)
        | false =>
          simp only [RS0, RS1, RS2, RS3, RS4, RS5, beq_dec, q1, q2, q3]
          exact hjj _ _ ⟨rfl, Y, s, lst, hK9⟩
  have fin : (RunS Tryz.prog (Instr.makeSlice 73 (Value.int IntKind.i64 12) (Value.int IntKind.i64 12)) w6 fun t135_265 w_266 =>
  ∃ (I_267 : List Value → World → Prop) (m_268 : List Value → World → Nat), I_267 [(Value.int IntKind.i64 0)] w_266 ∧
  ∀ (g_282 : Fr) (w_281 : World), ∀ n22_270 : Value, I_267 [n22_270] w_281 →
    (Pu (binV (TypeDesc.int IntKind.i64) .lss n22_270 (Value.int IntKind.i64 12)) fun t137_283 =>
    IfB t137_283
      (Cl Tryz.prog 43 [pv pb, n22_270] w_281 fun t144_284 w_285 =>
    Pu (ixV 1 t135_265 n22_270) fun t145_286 =>
    St 1 w_285 t145_286 t144_284 fun u_287 w_288 =>
    Pu (binV (TypeDesc.int IntKind.i64) .add n22_270 (Value.int IntKind.i64 1)) fun t139_289 =>
    I_267 [t139_289] w_288 ∧ m_268 [t139_289] w_288 < m_268 [n22_270] w_281)
      (Cl Tryz.prog 46 [pv b, hv0] w_281 fun t148_290 w_291 =>
  ∃ (I_292 : List Value → World → Prop) (m_293 : List Value → World → Nat), I_292 [(Value.int IntKind.i64 0)] w_291 ∧
  ∀ (g_345 : Fr) (w_344 : World), ∀ n23_296 : Value, I_292 [n23_296] w_344 →
    (Pu (binV (TypeDesc.int IntKind.i64) .lss n23_296 (Value.int IntKind.i64 12)) fun t150_346 =>
    IfB t150_346
      (Jn (fun vs_393 w_392 => ∀ g_394 : Fr, vs_393 = [] ∧
        (Pu (binV (TypeDesc.int IntKind.i64) .add n23_296 (Value.int IntKind.i64 1)) fun t152_395 =>
        I_292 [t152_395] w_392 ∧ m_293 [t152_395] w_392 < m_293 [n23_296] w_344))
      (fun jj_347 =>
      Pu (ixV 1 (.slice (some ⟨xi, 0, none⟩) 12 12) n23_296) fun t155_396 =>
      Ld w_344 t155_396 fun t156_397 w_398 =>
      Pu (unV .not t156_397) fun t157_399 =>
      Gd (isB false t157_399) (fun kk => kk t135_265 w_398) w_398 fun t159_400 w_401 =>
      Gd (isB false t157_399) (fun kk => kk n23_296 w_401) w_401 fun t160_402 w_403 =>
      Gd (isB false t157_399) (fun kk => Pu (ixV 1 t159_400 t160_402) fun vv => kk vv w_403) w_403 fun t161_404 w_405 =>
      Gd (isB false t157_399) (fun kk => Ld w_405 t161_404 kk) w_405 fun t162_406 w_407 =>
      Pu (pickV t157_399 (Value.bool true) t162_406) fun t163_408 =>
      IfB t163_408
        (jj_347 [] w_407)
        (Pu (binV (TypeDesc.int IntKind.i64) .mul (Value.int IntKind.i64 8) n23_296) fun t167_409 =>
      Pu (binV (TypeDesc.int IntKind.i64) .add (Value.int IntKind.i64 200) t167_409) fun t168_410 =>
      Cl Tryz.prog 40 [pv b, t168_410, (Value.int IntKind.i64 8)] w_407 fun t169_411 w_412 =>
      Pu (extV t169_411 0) fun t170_413 =>
      Pu (extV t169_411 1) fun t171_414 =>
      Cl Tryz.prog 41 [t170_413] w_412 fun t174_415 w_416 =>
      Pu (extV t174_415 0) fun t175_417 =>
      Pu (extV t174_415 1) fun t176_418 =>
      New #[(Value.int IntKind.i64 0), (Value.int IntKind.i64 0), (Value.int IntKind.i64 0), (Value.int IntKind.i64 0), (Value.string (ByteArray.mk #[])), (Value.slice none 0 0)] 61 w_416 fun wv26_419 w_420 =>
      St 6 w_420 wv26_419 t175_417 fun u_421 w_422 =>
      Pu (binV (TypeDesc.int IntKind.i64) .neq t171_414 (Value.int IntKind.i64 0)) fun t178_423 =>
      Gd (isB false t178_423) (fun kk => kk t176_418 (World.drew w_422)) (World.drew w_422) fun t180_424 w_425 =>
      Gd (isB false t178_423) (fun kk => Pu (binV (TypeDesc.int IntKind.i64) .neq t180_424 (Value.int IntKind.i64 0)) fun vv => kk vv w_425) w_425 fun t181_426 w_427 =>
      Pu (pickV t178_423 (Value.bool true) t181_426) fun t182_428 =>
      Gd (isB false t182_428) (fun kk => LdN 6 w_427 wv26_419 kk) w_427 fun t184_429 w_430 =>
      w_430 = w_427 ∧
      Gd (isB false t182_428) (fun kk => kk (.slice (some ⟨xl, 0, none⟩) 12 12) w_427) w_427 fun t185_431 w_432 =>
      Gd (isB false t182_428) (fun kk => kk n23_296 w_432) w_432 fun t186_433 w_434 =>
      Gd (isB false t182_428) (fun kk => Pu (ixV 6 t185_431 t186_433) fun vv => kk vv w_434) w_434 fun t187_435 w_436 =>
      Gd (isB false t182_428) (fun kk => LdN 6 w_436 t187_435 kk) w_436 fun t188_437 w_438 =>
      w_438 = w_436 ∧
      Gd (isB false t182_428) (fun kk => Cl Tryz.prog 34 [t184_429, t188_437] w_436 kk) w_436 fun t189_439 w_440 =>
      Gd (isB false t182_428) (fun kk => Pu (unV .not t189_439) fun vv => kk vv w_440) w_440 fun t190_441 w_442 =>
      Pu (pickV t182_428 (Value.bool true) t190_441) fun t191_443 =>
      IfB t191_443
        (Value.bool false = Value.bool true ∧ Fm (fun _ => False) w w_442)
        (jj_347 [] w_442))))
      (Cl Tryz.prog 35 [] w_344 fun t192_444 w_445 =>
  t192_444 = Value.bool true ∧ Fm (fun _ => False) w w_445))))) := by
    refine RunS_ok (made4 w6 12 (by omega)) ?_
    have hf7 := Fm.alloc (fun _ => False) w6 (.cells (List.replicate 12 (Value.bool false)).toArray 4)
    have hn7 := alloc_new w6 (.cells (List.replicate 12 (Value.bool false)).toArray 4)
    have hs7 := alloc_size w6 (.cells (List.replicate 12 (Value.bool false)).toArray 4)
    generalize w6.alloc (.cells (List.replicate 12 (Value.bool false)).toArray 4) = w7 at hf7 hn7 hs7
    have hK7 := hK.keep0 hf7
    have hll := hK.L.lt
    have hxo : ¬ Y w6.heap.size ∧ w6.heap.size ≠ xl ∧ w6.heap.size ≠ xi ∧ w.heap.size ≤ w6.heap.size := ⟨fun e => by have := (hK.S.ge _ e).2; omega, by omega, by omega, hK.S.fm.size⟩
    clear hf7 hs7 hK
    generalize w6.heap.size = xo at hn7 hxo
    refine ⟨fun vs w' => ∃ (n : Nat) (B : List Bool), vs = [iv (n : Int)] ∧ n ≤ 12 ∧ KS w w' Y pb lb b xl xi s lst ∧ w'.heap[xo]? = some (.cells (B.map Value.bool).toArray 4) ∧ B.length = 12 ∧ ∀ j, j < n → B[j]? = some (owB s j), fun vs _ => (12 - nth vs 0).toNat, ⟨0, List.replicate 12 false, rfl, by omega, hK7, by rw [hn7]; rfl, by simp, fun j hj => by omega⟩, ?_⟩
    clear hn7 hK7
    rintro _ w8 nv ⟨n, B, hvs, hn12, hK, hB, hBl, hBn⟩
    cases hvs
    by_cases hnl : n < 12
    · have d1 : decide ((n : Int) < 12) = true := by rw [decide_eq_true_eq]; omega
      have en : IntKind.i64.wrap ((n : Int) + 1) = ((n + 1 : Nat) : Int) := by rw [wrap_id] <;> omega
      simp only [RS0, RS1, RS2, RS3, RS4, RS5, d1]
      refine (hK.S.owes (n : Int)).mono ?_
      rintro _ w8 ⟨rfl, rfl⟩
      simp only [RS0, RS1, RS2, RS3, RS4, RS5, pix1 hnl xo]
      refine St_blk hB (j := n) (by rw [List.size_toArray, List.length_map]; omega) rfl ?_
      intro w9 hw9 hs9 hf9
      rw [List.setIfInBounds_toArray, ← List.map_set] at hw9
      simp only [RS0, RS1, RS2, RS3, RS4, RS5, en]
      refine ⟨⟨n + 1, B.set n (owB s n), rfl, by omega, ⟨hK.S.keep hf9 (by rintro y hy rfl; exact hxo.1 hy) (by rintro y rfl; exact hxo.2.2.2), hK.L.keep hf9 (fun e => hxo.2.1 e.symm) (fun e => hxo.2.2.1 e.symm), hK.G, hK.no, hK.pg⟩, hw9, by rw [List.length_set]; exact hBl, fun j hj => ?_⟩, by simp only [nth_0]; omega⟩
      rw [List.getElem?_set]
      by_cases e : n = j
      · rw [if_pos e, if_pos (by omega), e]
      · rw [if_neg e]; exact hBn j (by omega)
    have hn : n = 12 := by omega
    subst hn
    have d1 : decide (((12 : Nat) : Int) < 12) = false := by decide
    simp only [RS0, RS1, RS2, RS3, RS4, RS5, d1]
    have hG := hK.G
    have hpg := hK.pg
    refine (hK.S.dcrash hL hLr).mono ?_
    rintro _ w9 ⟨⟨Y9, hS9, _⟩, hf9⟩
    have hL9 := hK.L.keep hf9 hK.no.1 hK.no.2
    have hB9 := hf9.heap hB hxo.1
    have hcalm : Lg.Calm (s.d.crash L) := ⟨hG.calm.wf.crash L, rfl, rfl⟩
    have hcl : (s.d.crash L).cur.length = s.d.cur.length := Dk.mended_len L s.d
    have hlay := hG.lay.2
    rw [hpg.1, hpg.2] at hlay
    refine ⟨fun vs w' => ∃ n : Nat, vs = [iv (n : Int)] ∧ n ≤ 12 ∧ Fm (fun _ => False) w9 w', fun vs _ => (12 - nth vs 0).toNat, ⟨0, rfl, by omega, Fm.refl _ _⟩, ?_⟩
    rintro _ w10 nv ⟨n, hvs, hn12, hf10⟩
    cases hvs
    by_cases hnl : n < 12
    rotate_left
    · have d1 : decide ((n : Int) < 12) = false := by rw [decide_eq_false_iff_not]; omega
      simp only [RS0, RS1, RS2, RS3, RS4, RS5, d1]
      refine (paw_spec w10).mono ?_
      rintro _ w11 ⟨rfl, hf11⟩
      exact ⟨(by trivial), Fmf hS9.fm (Fmf hf10 hf11)⟩
    have d2 : decide ((n : Int) < 12) = true := by rw [decide_eq_true_eq]; omega
    have en : IntKind.i64.wrap ((n : Int) + 1) = ((n + 1 : Nat) : Int) := by rw [wrap_id] <;> omega
    have e1 : IntKind.i64.wrap (8 * (n : Int)) = ((8 * n : Nat) : Int) := by rw [wrap_id] <;> omega
    have e2 : IntKind.i64.wrap (200 + ((8 * n : Nat) : Int)) = ((200 + 8 * n : Nat) : Int) := by rw [wrap_id] <;> omega
    have hS10 := hS9.keep0 hf10
    have hL10 := hL9.keep0 hf10
    have his := hL10.is hnl
    have how : w10.cell? ⟨xo, n, none⟩ = some (.bool (owB s n)) := by
      rw [cell_at (hf10.heap hB9 (fun e => e)), List.getElem?_toArray, List.getElem?_map, hBn n (by omega)]; rfl
    simp only [RS0, RS1, RS2, RS3, RS4, RS5, d2]
    refine Jn_at (fun vs w' => vs = [] ∧ Fm (fun _ => False) w9 w') ?_ ?_
    · rintro _ w11 ⟨rfl, hf11⟩ _
      refine ⟨rfl, ?_⟩
      simp only [RS0, RS1, RS2, RS3, RS4, RS5, en]
      exact ⟨⟨n + 1, rfl, by omega, hf11⟩, by simp only [nth_0]; omega⟩
    intro jj hjj
    cases hln : lst n with
    | none =>
      rw [hln] at his
      simp only [RS0, RS1, RS2, RS3, RS4, RS5, pix1 hnl xi, his]
      exact hjj _ _ ⟨rfl, hf10⟩
    | some bp =>
    rw [hln] at his
    cases how' : owB s n with
    | true =>
      rw [how'] at how
      simp only [RS0, RS1, RS2, RS3, RS4, RS5, pix1 hnl xi, his, pix1 hnl xo, how]
      exact hjj _ _ ⟨rfl, hf10⟩
    | false =>
    rw [how'] at how
    have hnone : getD s.p.owed (n : Int) = none := by
      unfold owB at how'
      cases hg : getD s.p.owed (n : Int) with
      | none => rfl
      | some _ => rw [hg] at how'; cases how'
    have hdec := hG.crash L (n := n) (by rw [hpg.1]; exact hnl) hnone hln
    rw [hpg.2] at hdec
    have hrd : (s.d.crash L).read ((200 + 8 * n : Nat) : Int) 8 = (sec8 (s.d.crash L) (200 + 8 * n), 0) := read_calm hcalm (by rw [hcl]; omega)
    have hle := read_le hS10.dwf ((200 + 8 * n : Nat) : Int) 8
    simp only at hle
    rw [hrd] at hle
    obtain ⟨u2, k1, k2⟩ := hL10.pg hnl hln
    simp only [RS0, RS1, RS2, RS3, RS4, RS5, pix1 hnl xi, his, pix1 hnl xo, how, e1, e2]
    refine (hS10.dread ((200 + 8 * n : Nat) : Int) 8).mono ?_
    rintro _ w10 ⟨rfl, rfl⟩
    simp only
    rw [hrd]
    simp only [RS0, RS1, RS2, RS3, RS4, RS5]
    refine (decode_spec _ _ (by simp only at hle; omega)).mono ?_
    rintro _ w11 ⟨cs, rfl, ho3, hf11⟩
    rw [hdec] at ho3 ⊢
    obtain ⟨v3, rfl, hou3⟩ := ho3.ex
    simp only [RS0, RS1, RS2, RS3, RS4, RS5]
    refine New_any ?_
    intro x4 w12 hx4 hs12 hw12 hf12
    refine St_all hw12 rfl rfl (pcs_one (own_one hou3)) ?_
    intro w13 hw13 hs13 hf13
    have hF13 : Fm (fun _ => False) w11 w13 := Fm.own hf12 hf13 (by rintro y rfl; omega)
    have hfd := Fm.drew (fun _ => False) w13
    have hF13d := Fmf hF13 hfd
    have hc19 := cellsV_blk (hfd.heap hw13 (fun e => e)) (show (pcs bp v3).size = 6 from rfl)
    have hF10 := Fmf hf11 hF13d
    obtain ⟨u2, k1, k2⟩ := (hL10.keep0 hF10).pg hnl hln
    simp only [RS0, RS1, RS2, RS3, RS4, RS5, bne_refl0, hc19, true_and, pix6 hnl xl, k1]
    refine (rsame_spec (ho3.as.keep hF13d) (k2.keep (Fmf hS10.fm hF10))).mono ?_
    rintro _ w14 ⟨rfl, hf14⟩
    simp only [RS0, RS1, RS2, RS3, RS4, RS5, decide_true]
    exact hjj _ _ ⟨rfl, Fmf hf10 (Fmf hF10 hf14)⟩
  simp only [RS0, RS1, RS2, RS3, RS4, RS5] at fin
  have hd : (decide ((i : Int) < (xs.length : Int)) && decide ((i : Int) < 200)) = false := by
    rw [Bool.and_eq_false_iff, decide_eq_false_iff_not, decide_eq_false_iff_not]
    omega
  cases d1 : decide ((i : Int) < (xs.length : Int)) with
  | false =>
    simp only [RS0, RS1, RS2, RS3, RS4, RS5, hlv, d1]
    exact fin
  | true =>
    rw [d1, Bool.true_and] at hd
    simp only [RS0, RS1, RS2, RS3, RS4, RS5, hlv, d1, hd]
    exact fin
theorem powes_in {w : World} {v hv0 : Value} {xs : List OpP} {L : List Int} (frames : Int) (hv : SliceAs vOpP w v xs) (hL : SliceAs vI w hv0 L) : Cl Tryz.prog 10 [iv frames, v, hv0] w fun r w' => r = .bool true ∧ Fm (fun _ => False) w w' :=
  powes_law frames hv (hL.cells (f := iv) (by kernel_rfl) (fun cs x hx => hx.1)) (ints_in hL)
end Go.Proofs.YthbngnlmgplijaaGreatDoor

namespace Go.Al
set_option linter.unusedVariables false
set_option linter.unusedSimpArgs false
set_option linter.unusedSectionVars false
open Go.ChangeShapes Go.WideShapes Go.ChangeAt Go.RowKit

theorem law_laid {H : Type} {enc : TypeId × Value → H} {C : Checked} {os : Os} {f : FuncId} {fn : Func} {s : ChangeSpec} {conds : List PathCond} {tb : TypeId} {X : World → Array Value → Prop} (hX : ∀ (w w' : World) (args : Array Value), w.heap = w'.heap → X w args → X w' args)
    (own : ownKnob C.prog.godebug = none) (started : os.Started) (noInit : C.prog.inits.idxOf? f = none) (hfn : C.prog.funcs[f]? = some fn)
    (hlaid : laidOutB C.prog = true)
    (witness : ∃ (w : World) (tape : Tape) (i : Input), w.os = os ∧ (w.forCall tape i).Shaped C.prog ∧ i.vars = [] ∧ Input.okWide C.prog (w.forCall tape i) .any w.heap.size f i ∧
      ((s.pre enc C.prog fn conds false (w.forCall tape i).memory i.args ∧ X (w.forCall tape i).memory i.args) ∧ sizedMet enc C.prog fn (OpenSpec.ofChange s) false (w.forCall tape i).memory i.args) ∧ ({} : Assume).holds C.prog (lone (Frame.enter C.prog f i.args .normal) [] (w.forCall tape i)))
    (hres : fn.resultTypes = #[tb]) (hbool : C.prog.underlying tb = some .bool) (hvars : s.vars = [])
    (hrow : ∀ t ∈ fn.params.toList, C.prog.readableRec t = true ∧ t < C.prog.types.size)
    (hs : ∀ ds : List (DataW H), ds.length = fn.params.toList.length → s.fn H ds = { results := [.lit (.bool true)], args := ds, vars := [] })
    (law : ∀ (W : World) (args : List Value) (ds : List (DataW H)) (p : List MemPlace), LawIn enc C.prog fn.params.toList W args ds p → Cl C.prog f args W fun v w' => v = .bool true ∧ Fm (fun _ => False) W w') :
    ReturnsInHanded {} C os f .any (fun w args => (s.pre enc C.prog fn conds false w args ∧ X w args) ∧ sizedMet enc C.prog fn (OpenSpec.ofChange s) false w args) (s.post enc C.prog fn false true false false) := by
  refine returnsInHanded_of_change_and (X := X) hX own started noInit hfn witness ?_
  intro W base args ds gs before hval hW hcnd hsz _ _
  have hW' := hW
  obtain ⟨p, q, hA, hV, rfl, hfz, hnd⟩ := hW
  rw [hvars] at hV
  obtain ⟨rfl, rfl⟩ := trodVars_none hV
  have hty : s.plain.varTypes C.prog = [] := by simp [DataSpec.varTypes, ChangeSpec.plain, hvars]
  simp only [hty, List.append_nil] at hsz
  have hlt : ∀ x ∈ p, x.block < W.heap.size := fun x hx => hW'.lt x (by simp [hx])
  have hlen := (trodAll_length hA).2
  refine (cl_true (law W args.toList ds p ⟨hA, ⟨base, fun j t v hj hv => hval j t v (by simpa using hj) (by simpa using hv)⟩, hsz, hlt⟩)).mono fun e W' ⟨he, hb⟩ => ?_
  subst he
  refine ⟨_, rfl, ds, [], p ++ [], [], p, [], hW', ?_, ?_, ?_, hb.frame _, fun h => by cases h⟩
  · rw [List.append_nil, hs ds hlen, hres]
    exact trodAll_cons_mk (shut_bool hbool _) trodAll_mk0
  · rw [List.append_nil, hs ds hlen]
    exact trodAll_below hlaid hb hrow hA hlt
  · rw [List.append_nil, hs ds hlen, hvars]; trivial

end Go.Al
