/- Acts, the log that they lay, and what a restart finds in it: plainly. -/
import Derived.Test.YthgdinjgdjiknaaRest5
namespace Go.Proofs.Ythgdinjgdjiknaa
open Go.Al Go.Proofs
set_option linter.unusedVariables false
set_option linter.unusedSimpArgs false
set_option linter.unusedSectionVars false
set_option maxRecDepth 100000

theorem getD_setL {α : Type} (l : List α) (s t : Nat) (v d : α) (hs : s < l.length) : (l.set s v).getD t d = if t = s then v else l.getD t d := by
  rw [List.getD_eq_getElem?_getD, List.getD_eq_getElem?_getD, List.getElem?_set]
  by_cases h : s = t
  · subst h; simp [hs]
  · have h' : ¬ t = s := fun e => h e.symm
    simp [h, h']

abbrev Act := Int × Int
structure LS where
  last : List Int
  opn : List (List Int)
  over : List Bool
  out : List Rc
def slot (who : Int) : Nat := (who % 8).toNat
theorem slot_lt (who : Int) : slot who < 8 := by unfold slot; omega
def cur (l : List Int) : Int := l.getLastD 0
def lastS (σ : LS) (s : Nat) : Int := σ.last.getD s 0
def opnS (σ : LS) (s : Nat) : List Int := σ.opn.getD s []
def overS (σ : LS) (s : Nat) : Bool := σ.over.getD s false
def lsnI (i : Nat) : Int := 10 * (i : Int) + 1
def mkR (lsn prev next kind : Int) (s : Nat) : Rc := rcz lsn prev next kind ((s : Int) + 1)
def put (σ : LS) (s : Nat) (lsn : Int) (o : List Int) (ov : Bool) (next kind : Int) : LS := ⟨σ.last.set s lsn, σ.opn.set s o, σ.over.set s ov, σ.out ++ [mkR lsn (lastS σ s) next kind s]⟩
def lgStep (i : Nat) (σ : LS) (a : Act) : LS :=
  bif overS σ (slot a.2) then σ
  else bif decide (a.1 = 0) then put σ (slot a.2) (lsnI i) (opnS σ (slot a.2) ++ [lsnI i]) false 0 1
  else bif decide (a.1 = 1) then put σ (slot a.2) (lsnI i) (opnS σ (slot a.2) ++ [lsnI i]) false 0 2
  else bif decide (a.1 = 3) then (bif decide ((opnS σ (slot a.2)).length = 0) then σ else put σ (slot a.2) (lsnI i) ((opnS σ (slot a.2)).take ((opnS σ (slot a.2)).length - 1)) false (cur ((opnS σ (slot a.2)).take ((opnS σ (slot a.2)).length - 1))) 6)
  else bif decide (a.1 = 2) || decide (a.1 = 4) then (bif decide (lastS σ (slot a.2) = 0) then σ else put σ (slot a.2) (lsnI i) [] true 0 (bif decide (a.1 = 4) then 8 else 7))
  else σ
def lg0 : LS := ⟨List.replicate 8 0, List.replicate 8 [], List.replicate 8 false, []⟩
def lgN (acts : List Act) : Nat → LS
  | 0 => lg0
  | i + 1 => match acts[i]? with
    | some a => lgStep i (lgN acts i) a
    | none => lgN acts i

/-! ### Which acts are kept -/
def keepStep (st : List Bool × List Act) (a : Act) : List Bool × List Act :=
  bif st.1.getD (slot a.2) false && (decide (a.1 < 2) || decide (a.1 = 2)) then st
  else (st.1.set (slot a.2) (st.1.getD (slot a.2) false || decide (a.1 = 3)), st.2 ++ [a])
def kept0 : List Bool × List Act := (List.replicate 8 false, [])
def undOf (l : List Act) (s : Nat) : Prop := ∃ a ∈ l, slot a.2 = s ∧ a.1 = 3
def Good (l : List Act) : Prop := ∀ k a, l[k]? = some a → undOf (l.take k) (slot a.2) → ¬ a.1 ≤ 2
structure KInv (st : List Bool × List Act) : Prop where
  len : st.1.length = 8
  good : Good st.2
  und : ∀ s, s < 8 → (st.1.getD s false = true ↔ undOf st.2 s)
theorem undOf_snoc (l : List Act) (a : Act) (s : Nat) : undOf (l ++ [a]) s ↔ undOf l s ∨ (slot a.2 = s ∧ a.1 = 3) := by
  unfold undOf
  constructor
  · rintro ⟨b, hb, h⟩
    rcases List.mem_append.1 hb with hb | hb
    · exact .inl ⟨b, hb, h⟩
    · obtain rfl : b = a := by simpa using hb
      exact .inr h
  · rintro (⟨b, hb, h⟩ | h)
    · exact ⟨b, List.mem_append_left _ hb, h⟩
    · exact ⟨a, by simp, h⟩
theorem KInv.zero : KInv kept0 := ⟨rfl, fun k a h => by simp [kept0] at h, fun s hs => by
  have : kept0.1.getD s false = false := by
    rw [List.getD_eq_getElem?_getD, kept0, List.getElem?_replicate]
    split <;> rfl
  rw [this]
  exact ⟨(fun h => by cases h), (fun ⟨a, ha, _⟩ => by simp [kept0] at ha)⟩⟩
theorem KInv.step {st : List Bool × List Act} (h : KInv st) (a : Act) : KInv (keepStep st a) := by
  unfold keepStep
  cases hc : st.1.getD (slot a.2) false && (decide (a.1 < 2) || decide (a.1 = 2)) with
  | true => exact h
  | false =>
    simp only [cond_false]
    refine ⟨by simp [h.len], ?_, ?_⟩
    · intro k b hb hu
      rw [List.getElem?_append] at hb
      split at hb
      · rename_i hk
        simp only at hu
        rw [List.take_append_of_le_length (by omega)] at hu
        exact h.good k b hb hu
      · rename_i hk
        have hk0 : k = st.2.length := by
          have := (List.getElem?_eq_some_iff.1 hb).1
          simp at this; omega
        subst hk0
        obtain rfl : a = b := by simpa using hb
        simp only at hu
        rw [List.take_left, ← h.und _ (slot_lt _)] at hu
        rw [hu] at hc
        simp only [Bool.true_and, Bool.or_eq_false_iff, decide_eq_false_iff_not] at hc
        omega
    · intro s hs
      simp only
      rw [getD_setL _ _ _ _ _ (by rw [h.len]; exact slot_lt _), undOf_snoc]
      split
      · rename_i he
        subst he
        rw [Bool.or_eq_true, decide_eq_true_eq, h.und _ hs]
        simp
      · rename_i he
        rw [h.und _ hs]
        constructor
        · exact fun h => .inl h
        · rintro (h | ⟨h, _⟩)
          · exact h
          · exact absurd h.symm he

/-! ### What holds of the log -/
theorem byM_snoc (l : List Rc) (r : Rc) : byM (l ++ [r]) = bstep (byM l) r := by unfold byM; rw [List.foldl_append]; rfl
theorem lastM_snoc (l : List Rc) (r : Rc) : lastM (l ++ [r]) = lstep (lastM l) r := by unfold lastM; rw [List.foldl_append]; rfl
theorem getD_bstep {B : List (Int × Rc)} {r : Rc} (h : getD B r.lsn = none) (a : Int) : getD (bstep B r) a = if a = r.lsn then some r else getD B a := by
  unfold bstep
  rw [h]
  simp only
  exact getD_setD _ _ _ _

/-- What is open, from below: each its record, chained. -/
def Chn (B : List (Int × Rc)) (s : Nat) (o : List Int) : Prop := ∀ k a, o[k]? = some a → 0 < a ∧ ∃ r, getD B a = some r ∧ (r.kind = 1 ∨ r.kind = 2) ∧ r.xid = (s : Int) + 1 ∧ r.prev = cur (o.take k)
theorem Chn.ext {B B' : List (Int × Rc)} {s : Nat} {o : List Int} (h : Chn B s o) (hB : ∀ a r, getD B a = some r → getD B' a = some r) : Chn B' s o := fun k a hk => by
  obtain ⟨h1, r, h2, h3⟩ := h k a hk
  exact ⟨h1, r, hB a r h2, h3⟩
theorem Chn.take {B : List (Int × Rc)} {s : Nat} {o : List Int} (h : Chn B s o) (m : Nat) : Chn B s (o.take m) := fun k a hk => by
  rw [List.getElem?_take] at hk
  split at hk
  · rename_i hkm
    obtain ⟨h1, r, h2, h3, h4, h5⟩ := h k a hk
    exact ⟨h1, r, h2, h3, h4, by rw [List.take_take, Nat.min_eq_left (by omega)]; exact h5⟩
  · cases hk
theorem Chn.nil (B : List (Int × Rc)) (s : Nat) : Chn B s [] := fun k a hk => by simp at hk
theorem Chn.snoc {B : List (Int × Rc)} {s : Nat} {o : List Int} (h : Chn B s o) {a : Int} {r : Rc} (ha : 0 < a) (hr : getD B a = some r) (hk : r.kind = 1 ∨ r.kind = 2) (hx : r.xid = (s : Int) + 1) (hp : r.prev = cur o) : Chn B s (o ++ [a]) := fun k b hb => by
  rw [List.getElem?_append] at hb
  split at hb
  · rename_i hkl
    rw [List.take_append_of_le_length (by omega)]
    exact h k b hb
  · rename_i hkl
    have hk0 : k = o.length := by
      have := (List.getElem?_eq_some_iff.1 hb).1
      simp at this; omega
    subst hk0
    obtain rfl : a = b := by simpa using hb
    exact ⟨ha, r, hr, hk, hx, by rw [List.take_left]; exact hp⟩
theorem cur_snoc (o : List Int) (a : Int) : cur (o ++ [a]) = a := by simp [cur]
theorem cur_take {o : List Int} {m : Nat} {a : Int} (h : o[m]? = some a) : cur (o.take (m + 1)) = a := by rw [List.take_add_one, h]; exact cur_snoc _ _
theorem cur_of {o : List Int} (h : o ≠ []) : o[o.length - 1]? = some (cur o) := by
  have hl : 0 < o.length := List.length_pos_iff.2 h
  have h1 : o[o.length - 1]? = some o[o.length - 1] := List.getElem?_eq_getElem (by omega)
  have h2 := cur_take h1
  rw [show o.length - 1 + 1 = o.length by omega, List.take_length] at h2
  rw [h1, h2]
theorem left_chain {B : List (Int × Rc)} {s : Nat} {o : List Int} (h : Chn B s o) : ∀ (m : Nat), m ≤ o.length → ∀ (j n : Nat), leftN B (m + 1 + j) (cur (o.take m)) n = n + m
  | 0, _, j, n => by
    rw [show 0 + 1 + j = j + 1 by omega, leftN]
    have e : cur (o.take 0) = 0 := rfl
    rw [e]
    cases getD B 0 with
    | none => rfl
    | some r => rfl
  | m + 1, hm, j, n => by
    have hx : o[m]? = some o[m] := List.getElem?_eq_getElem (by omega)
    obtain ⟨h1, r, h2, h3, h4, h5⟩ := h m _ hx
    rw [cur_take hx, show m + 1 + 1 + j = (m + 1 + j) + 1 by omega, leftN, h2]
    simp only
    rw [show decide (o[m] ≤ 0) = false by rw [decide_eq_false_iff_not]; omega, cond_false]
    rw [show (decide (r.kind = 1) || decide (r.kind = 2)) = true by simpa using h3, cond_true, h5, left_chain h m (by omega) j (n + 1)]
    omega

structure LInv (i : Nat) (und : Nat → Prop) (σ : LS) : Prop where
  l1 : σ.last.length = 8
  l2 : σ.opn.length = 8
  l3 : σ.over.length = 8
  n : σ.out.length ≤ i
  inb : ∀ r ∈ σ.out, (0 < r.lsn ∧ r.lsn < 10 * (i : Int) + 1 ∧ 0 ≤ r.prev ∧ r.prev < 10 * (i : Int) + 1 ∧ 0 ≤ r.next ∧ r.next < 10 * (i : Int) + 1 ∧ 0 < r.xid ∧ r.xid ≤ 8) ∧ r.imgs = []
  by1 : ∀ a r, getD (byM σ.out) a = some r → a < 10 * (i : Int) + 1
  ch : ∀ s, s < 8 → Chn (byM σ.out) s (opnS σ s)
  up : ∀ s, s < 8 → (opnS σ s).Pairwise (· < ·)
  lo : ∀ s, s < 8 → (opnS σ s).length ≤ σ.out.length
  la : ∀ s, s < 8 → overS σ s = true → opnS σ s = [] ∧ getD (lastM σ.out) ((s : Int) + 1) = none
  lb : ∀ s, s < 8 → overS σ s = false → (lastS σ s = 0 ∧ getD (lastM σ.out) ((s : Int) + 1) = none ∧ opnS σ s = []) ∨ (0 < lastS σ s ∧ getD (lastM σ.out) ((s : Int) + 1) = some (cur (opnS σ s)))
  lc : ∀ s, s < 8 → overS σ s = false → ¬ und s → lastS σ s = cur (opnS σ s)
  lk : ∀ x ∈ (lastM σ.out).map (·.1), 1 ≤ x ∧ x ≤ 8
  lbn : ∀ s, s < 8 → 0 ≤ lastS σ s ∧ lastS σ s < 10 * (i : Int) + 1
theorem LInv.obn {i : Nat} {und : Nat → Prop} {σ : LS} (h : LInv i und σ) {s : Nat} (hs : s < 8) : ∀ a ∈ opnS σ s, 0 < a ∧ a < 10 * (i : Int) + 1 := by
  intro a ha
  obtain ⟨k, hk⟩ := List.getElem?_of_mem ha
  obtain ⟨h1, r, h2, _⟩ := h.ch s hs k a hk
  exact ⟨h1, h.by1 a r h2⟩
theorem cur_mem {o : List Int} (h : o ≠ []) : cur o ∈ o := List.mem_of_getElem? (cur_of h)
theorem LInv.cbn {i : Nat} {und : Nat → Prop} {σ : LS} (h : LInv i und σ) {s : Nat} (hs : s < 8) (m : Nat) : 0 ≤ cur ((opnS σ s).take m) ∧ cur ((opnS σ s).take m) < 10 * (i : Int) + 1 := by
  by_cases he : (opnS σ s).take m = []
  · rw [he]; show (0 : Int) ≤ 0 ∧ (0 : Int) < _; omega
  · have := h.obn hs _ (List.mem_of_mem_take (cur_mem he)); omega
theorem LInv.skip {i : Nat} {und und' : Nat → Prop} {σ : LS} (h : LInv i und σ) (hu : ∀ s, und s → und' s) : LInv (i + 1) und' σ where
  l1 := h.l1
  l2 := h.l2
  l3 := h.l3
  n := by have := h.n; omega
  inb := fun r hr => by have := h.inb r hr; exact ⟨by omega, this.2⟩
  by1 := fun a r hr => by have := h.by1 a r hr; omega
  ch := h.ch
  up := h.up
  lo := h.lo
  la := h.la
  lb := h.lb
  lc := fun s hs ho hn => h.lc s hs ho (fun e => hn (hu s e))
  lk := h.lk
  lbn := fun s hs => by have := h.lbn s hs; omega
section
variable (σ : LS) (s : Nat) (lsn : Int) (o : List Int) (ov : Bool) (next kind : Int)
theorem put_last (h : s < σ.last.length) (t : Nat) : lastS (put σ s lsn o ov next kind) t = if t = s then lsn else lastS σ t := getD_setL _ _ _ _ _ h
theorem put_opn (h : s < σ.opn.length) (t : Nat) : opnS (put σ s lsn o ov next kind) t = if t = s then o else opnS σ t := getD_setL _ _ _ _ _ h
theorem put_over (h : s < σ.over.length) (t : Nat) : overS (put σ s lsn o ov next kind) t = if t = s then ov else overS σ t := getD_setL _ _ _ _ _ h
end
/-- A record is laid. -/
theorem LInv.put {i : Nat} {und und' : Nat → Prop} {σ : LS} (h : LInv i und σ) (hu : ∀ t, und t → und' t) {s : Nat} (hs : s < 8) {o : List Int} {ov : Bool} {next kind : Int}
    (hnx : 0 ≤ next ∧ next < 10 * (i : Int) + 1) (hkind : isM kind = true)
    (hch : Chn (bstep (byM σ.out) (mkR (lsnI i) (lastS σ s) next kind s)) s o) (hup : o.Pairwise (· < ·)) (hlo : o.length ≤ (opnS σ s).length + 1)
    (hov : ov = true → o = [] ∧ (kind = 7 ∨ kind = 8)) (hno : ov = false → kind ≠ 7 ∧ kind ≠ 8 ∧ (bif decide (kind = 6) then next else lsnI i) = cur o) (hund : ov = false → ¬ und' s → lsnI i = cur o) :
    LInv (i + 1) und' (put σ s (lsnI i) o ov next kind) := by
  have h1 := h.l1
  have h2 := h.l2
  have h3 := h.l3
  have hl := fun t => put_last σ s (lsnI i) o ov next kind (by omega) t
  have hO := fun t => put_opn σ s (lsnI i) o ov next kind (by omega) t
  have hV := fun t => put_over σ s (lsnI i) o ov next kind (by omega) t
  have hout : (Go.Proofs.Ythgdinjgdjiknaa.put σ s (lsnI i) o ov next kind).out = σ.out ++ [mkR (lsnI i) (lastS σ s) next kind s] := rfl
  generalize hr : mkR (lsnI i) (lastS σ s) next kind s = r at hch hout
  have r1 : r.lsn = lsnI i := by rw [← hr]; rfl
  have r2 : r.prev = lastS σ s := by rw [← hr]; rfl
  have r3 : r.next = next := by rw [← hr]; rfl
  have r4 : r.kind = kind := by rw [← hr]; rfl
  have r5 : r.xid = (s : Int) + 1 := by rw [← hr]; rfl
  have r6 : r.imgs = [] := by rw [← hr]; rfl
  have hmine : mine r = true := by
    unfold mine
    rw [r4, r5, hkind, Bool.true_and, decide_eq_true_eq]; omega
  have hfresh : getD (byM σ.out) r.lsn = none := by
    cases hg : getD (byM σ.out) r.lsn with
    | none => rfl
    | some q => have := h.by1 _ _ hg; rw [r1] at this; unfold lsnI at this; omega
  have hB := byM_snoc σ.out r
  have hL := lastM_snoc σ.out r
  have hext : ∀ a q, getD (byM σ.out) a = some q → getD (bstep (byM σ.out) r) a = some q := by
    intro a q hq
    rw [getD_bstep hfresh]
    have := h.by1 _ _ hq
    rw [if_neg (by rw [r1]; unfold lsnI; omega)]
    exact hq
  have hnd := lastM_nodup σ.out
  have hlst : ∀ x, getD (lstep (lastM σ.out) r) x = if x = (s : Int) + 1 then (bif decide (kind = 7) || decide (kind = 8) then none else some (bif decide (kind = 6) then next else lsnI i)) else getD (lastM σ.out) x := by
    intro x
    unfold lstep
    rw [hmine, r4]
    simp only [Bool.not_true, cond_false]
    cases h78 : decide (kind = 7) || decide (kind = 8) with
    | true => simp only [cond_true]; rw [getD_delD hnd, r5]
    | false =>
      simp only [cond_false]
      cases h6 : decide (kind = 6) with
      | true => simp only [cond_true]; rw [getD_setD, r5, r3]
      | false => simp only [cond_false]; rw [getD_setD, r5, r1]
  refine ⟨by simp [Go.Proofs.Ythgdinjgdjiknaa.put, h1], by simp [Go.Proofs.Ythgdinjgdjiknaa.put, h2], by simp [Go.Proofs.Ythgdinjgdjiknaa.put, h3], ?_, ?_, ?_, ?_, ?_, ?_, ?_, ?_, ?_, ?_, ?_⟩
  · rw [hout]; simp; exact h.n
  · rw [hout]
    intro q hq
    rcases List.mem_append.1 hq with hq | hq
    · have := h.inb q hq; exact ⟨by omega, this.2⟩
    · obtain rfl : q = r := by simpa using hq
      have := h.lbn s hs
      refine ⟨?_, r6⟩
      rw [r1, r2, r3, r5]; unfold lsnI; omega
  · rw [hout, hB]
    intro a q hq
    rw [getD_bstep hfresh] at hq
    split at hq
    · rename_i he; rw [he, r1]; unfold lsnI; omega
    · have := h.by1 a q hq; omega
  · intro t ht
    rw [hout, hB, hO]
    split
    · rename_i he; rw [he]; exact hch
    · exact (h.ch t ht).ext hext
  · intro t ht
    rw [hO]
    split
    · exact hup
    · exact h.up t ht
  · intro t ht
    rw [hO, hout]
    simp only [List.length_append, List.length_cons, List.length_nil]
    split
    · have := h.lo s hs; omega
    · have := h.lo t ht; omega
  · intro t ht
    rw [hV, hO, hout, hL, hlst]
    by_cases he : t = s
    · rw [if_pos he, if_pos he, if_pos (by rw [he])]
      intro hov'
      obtain ⟨q1, q2⟩ := hov hov'
      refine ⟨q1, ?_⟩
      rw [show (decide (kind = 7) || decide (kind = 8)) = true by simpa using q2]; rfl
    · rw [if_neg he, if_neg he, if_neg (by omega)]
      exact h.la t ht
  · intro t ht
    rw [hV, hO, hout, hL, hlst, hl]
    by_cases he : t = s
    · rw [if_pos he, if_pos he, if_pos he, if_pos (by rw [he])]
      intro hov'
      obtain ⟨q1, q2, q3⟩ := hno hov'
      refine .inr ⟨by unfold lsnI; omega, ?_⟩
      rw [show (decide (kind = 7) || decide (kind = 8)) = false by simp [q1, q2], cond_false, q3]
    · rw [if_neg he, if_neg he, if_neg he, if_neg (by omega)]
      exact h.lb t ht
  · intro t ht
    rw [hV, hO, hl]
    by_cases he : t = s
    · rw [if_pos he, if_pos he, if_pos he, he]
      exact hund
    · rw [if_neg he, if_neg he, if_neg he]
      exact fun q1 q2 => h.lc t ht q1 (fun e => q2 (hu t e))
  · rw [hout, hL]
    intro x hx
    rcases keysof_lstep _ _ hx with hx | ⟨hx, _⟩
    · exact h.lk x hx
    · rw [hx, r5]; omega
  · intro t ht
    rw [hl]
    split
    · unfold lsnI; omega
    · have := h.lbn t ht; omega

theorem LInv.step {i : Nat} {l : List Act} {a : Act} {σ : LS} (h : LInv i (undOf l) σ) (hg : undOf l (slot a.2) → ¬ a.1 ≤ 2) : LInv (i + 1) (undOf (l ++ [a])) (lgStep i σ a) := by
  have hu : ∀ s, undOf l s → undOf (l ++ [a]) s := fun s hs => (undOf_snoc _ _ _).2 (.inl hs)
  have hs := slot_lt a.2
  unfold lgStep
  generalize hse : slot a.2 = s at hs hg
  have hskip := h.skip hu
  cases hv : overS σ s with
  | true => exact hskip
  | false =>
  simp only [cond_false]
  have hfresh : ∀ (pv nx kd : Int), getD (byM σ.out) (mkR (lsnI i) pv nx kd s).lsn = none := by
    intro pv nx kd
    cases hg : getD (byM σ.out) (mkR (lsnI i) pv nx kd s).lsn with
    | none => rfl
    | some q => have := h.by1 _ _ hg; have e : (mkR (lsnI i) pv nx kd s).lsn = lsnI i := rfl; rw [e] at this; unfold lsnI at this; omega
  have hext : ∀ (pv nx kd : Int) a q, getD (byM σ.out) a = some q → getD (bstep (byM σ.out) (mkR (lsnI i) pv nx kd s)) a = some q := by
    intro pv nx kd a q hq
    rw [getD_bstep (hfresh pv nx kd)]
    have := h.by1 _ _ hq
    have e : (mkR (lsnI i) pv nx kd s).lsn = lsnI i := rfl
    rw [if_neg (by rw [e]; unfold lsnI; omega)]
    exact hq
  have add : ∀ kd : Int, (kd = 1 ∨ kd = 2) → a.1 ≤ 2 → LInv (i + 1) (undOf (l ++ [a])) (Go.Proofs.Ythgdinjgdjiknaa.put σ s (lsnI i) (opnS σ s ++ [lsnI i]) false 0 kd) := by
    intro kd hkd ha
    have hnu : ¬ undOf l s := fun e => hg e ha
    have hlc := h.lc s hs hv hnu
    refine h.put hu hs (by omega) (by rcases hkd with rfl | rfl <;> rfl) ?_ ?_ (by simp) (fun e => by cases e) (fun _ => ⟨by omega, by omega, ?_⟩) (fun _ _ => (cur_snoc _ _).symm)
    · refine ((h.ch s hs).ext (hext _ _ _)).snoc (by unfold lsnI; omega) (r := mkR (lsnI i) (lastS σ s) 0 kd s) ?_ hkd rfl hlc
      rw [getD_bstep (hfresh _ _ _)]
      exact if_pos rfl
    · rw [List.pairwise_append]
      refine ⟨h.up s hs, by simp, ?_⟩
      intro x hx y hy
      obtain rfl : y = lsnI i := by simpa using hy
      have := h.obn hs x hx
      unfold lsnI; omega
    · rw [show decide (kd = 6) = false by rw [decide_eq_false_iff_not]; omega, cond_false, cur_snoc]
  cases h0 : decide (a.1 = 0) with
  | true => exact add 1 (.inl rfl) (by simp at h0; omega)
  | false =>
  cases h1 : decide (a.1 = 1) with
  | true => exact add 2 (.inr rfl) (by simp at h1; omega)
  | false =>
  simp only [cond_false]
  cases h3 : decide (a.1 = 3) with
  | true =>
    simp only [cond_true]
    cases hn : decide ((opnS σ s).length = 0) with
    | true => exact hskip
    | false =>
      simp only [cond_false]
      have ha3 : a.1 = 3 := by simpa using h3
      refine h.put hu hs (h.cbn hs _) rfl (((h.ch s hs).ext (hext _ _ _)).take _) ((h.up s hs).sublist (List.take_sublist _ _)) (by rw [List.length_take]; omega) (fun e => by cases e) (fun _ => ⟨by decide, by decide, rfl⟩) (fun _ hnu => absurd ?_ hnu)
      exact (undOf_snoc _ _ _).2 (.inr ⟨hse, ha3⟩)
  | false =>
  simp only [cond_false]
  cases h24 : decide (a.1 = 2) || decide (a.1 = 4) with
  | false => exact hskip
  | true =>
    simp only [cond_true]
    cases hz : decide (lastS σ s = 0) with
    | true => exact hskip
    | false =>
      simp only [cond_false]
      refine h.put hu hs (by omega) (by cases decide (a.1 = 4) <;> rfl) (Chn.nil _ _) (by simp) (by simp) (fun _ => ⟨rfl, by cases decide (a.1 = 4) <;> simp⟩) (fun e => by cases e) (fun e => by cases e)
theorem rep_getD {α : Type} (n : Nat) (x : α) (s : Nat) : (List.replicate n x).getD s x = x := by
  rw [List.getD_eq_getElem?_getD, List.getElem?_replicate]
  split <;> rfl
theorem LInv.zero : LInv 0 (undOf []) lg0 where
  l1 := rfl
  l2 := rfl
  l3 := rfl
  n := Nat.le_refl _
  inb := fun r hr => by simp [lg0] at hr
  by1 := fun a r hr => by
    have : getD (byM lg0.out) a = none := rfl
    rw [this] at hr; cases hr
  ch := fun s hs => by
    have : opnS lg0 s = [] := rep_getD 8 [] s
    rw [this]; exact Chn.nil _ _
  up := fun s hs => by
    have : opnS lg0 s = [] := rep_getD 8 [] s
    rw [this]; simp
  lo := fun s hs => by
    have : opnS lg0 s = [] := rep_getD 8 [] s
    rw [this]; simp
  la := fun s hs h => by
    have : overS lg0 s = false := rep_getD 8 false s
    rw [this] at h; cases h
  lb := fun s hs h => .inl ⟨rep_getD 8 0 s, rfl, rep_getD 8 [] s⟩
  lc := fun s hs h _ => by
    have h1 : opnS lg0 s = [] := rep_getD 8 [] s
    have h2 : lastS lg0 s = 0 := rep_getD 8 0 s
    rw [h1, h2]; rfl
  lk := fun x hx => by simp [lastM, lg0] at hx
  lbn := fun s hs => by
    have h2 : lastS lg0 s = 0 := rep_getD 8 0 s
    rw [h2]; omega
theorem lgInv {l : List Act} (hg : Good l) : ∀ i, i ≤ l.length → LInv i (undOf (l.take i)) (lgN l i)
  | 0, _ => by rw [List.take_zero]; exact LInv.zero
  | i + 1, hi => by
    have ha : l[i]? = some l[i] := List.getElem?_eq_getElem (by omega)
    rw [lgN, ha, List.take_add_one, ha]
    exact (lgInv hg i (by omega)).step (hg i _ ha)

/-! ### How much there is to undo -/
def lenSum (O : List (List Int)) : Nat := (O.map List.length).sum
theorem sum_sub (f : Int → Nat) : ∀ (L K : List Int), K.Nodup → L.Nodup → (∀ x ∈ K, x ∈ L) → (∀ x ∈ L, x ∉ K → f x = 0) → (K.map f).sum = (L.map f).sum
  | [], K, _, _, h, _ => by
    cases K with
    | nil => rfl
    | cons x K => have := h x (by simp); simp at this
  | x :: L, K, hk, hl, h, h0 => by
    rw [List.nodup_cons] at hl
    by_cases hx : x ∈ K
    · have hp := List.perm_cons_erase hx
      have hs : (K.map f).sum = f x + ((K.erase x).map f).sum := by
        have := (hp.map f).sum_nat
        rw [this]; simp
      have hke := hk.erase x
      rw [hs, sum_sub f L (K.erase x) hke hl.2 (fun y hy => ?_) (fun y hy hn => ?_)]
      · simp
      · have hy1 := (hk.mem_erase_iff).1 hy
        rcases List.mem_cons.1 (h y hy1.2) with rfl | h2
        · exact absurd rfl hy1.1
        · exact h2
      · refine h0 y (List.mem_cons_of_mem _ hy) (fun hyk => hn ((hk.mem_erase_iff).2 ⟨?_, hyk⟩))
        rintro rfl
        exact hl.1 hy
    · rw [sum_sub f L K hk hl.2 (fun y hy => ?_) (fun y hy hn => h0 y (List.mem_cons_of_mem _ hy) hn)]
      · rw [List.map_cons, List.sum_cons, h0 x (by simp) hx, Nat.zero_add]
      · rcases List.mem_cons.1 (h y hy) with rfl | h2
        · exact absurd hy hx
        · exact h2
def L8 : List Int := [1, 2, 3, 4, 5, 6, 7, 8]
theorem lenSum_L8 {O : List (List Int)} (h : O.length = 8) : (L8.map fun x => (O.getD (x - 1).toNat []).length).sum = lenSum O := by
  match O, h with
  | [a, b, c, d, e, f, g, i], _ => rfl
theorem mem_L8 {x : Int} : x ∈ L8 ↔ 1 ≤ x ∧ x ≤ 8 := by
  simp only [L8, List.mem_cons, List.not_mem_nil, or_false]; omega
theorem foldl_wrap (f : Int → Nat) : ∀ (l : List Int) (u : Nat), u + (l.map f).sum ≤ 4611686018427387904 → l.foldl (fun u x => IntKind.i64.wrap (u + (f x : Nat))) (u : Int) = ((u + (l.map f).sum : Nat) : Int)
  | [], u, _ => by simp
  | x :: l, u, h => by
    rw [List.map_cons, List.sum_cons] at h
    rw [List.foldl_cons, show (u : Int) + (f x : Nat) = ((u + f x : Nat) : Int) by push_cast; rfl, wrap_nat (by omega), foldl_wrap f l (u + f x) (by omega), List.map_cons, List.sum_cons]
    congr 1; omega
theorem sum_le {l : List Int} {f : Int → Nat} {b : Nat} (h : ∀ x ∈ l, f x ≤ b) : (l.map f).sum ≤ l.length * b := by
  induction l with
  | nil => simp
  | cons x l ih =>
    rw [List.map_cons, List.sum_cons, List.length_cons, Nat.succ_mul]
    have := ih (fun y hy => h y (List.mem_cons_of_mem _ hy))
    have := h x (by simp)
    omega
section
variable {i : Nat} {und : Nat → Prop} {σ : LS}
theorem LInv.keys8 (h : LInv i und σ) : ∀ x ∈ sortK (lastM σ.out), 1 ≤ x ∧ x ≤ 8 := fun x hx => h.lk x ((sortK_perm _).mem_iff.1 hx)
theorem LInv.key (h : LInv i und σ) {x : Int} (hx : x ∈ sortK (lastM σ.out)) : getD (lastM σ.out) x = some (cur (opnS σ (x - 1).toNat)) := by
  have h8 := h.keys8 x hx
  have hs : (x - 1).toNat < 8 := by omega
  have hxs : (((x - 1).toNat : Nat) : Int) + 1 = x := by omega
  have hsome := (sortK_mem _ _).1 hx
  cases hov : overS σ (x - 1).toNat with
  | true =>
    have := (h.la _ hs hov).2
    rw [hxs] at this
    rw [this] at hsome; cases hsome
  | false =>
    rcases h.lb _ hs hov with ⟨_, h2, _⟩ | ⟨_, h2⟩
    · rw [hxs] at h2
      rw [h2] at hsome; cases hsome
    · rw [hxs] at h2; exact h2
theorem LInv.noOpen (h : LInv i und σ) {s : Nat} (hs : s < 8) (hx : ((s : Int) + 1) ∉ sortK (lastM σ.out)) : opnS σ s = [] := by
  have hn : getD (lastM σ.out) ((s : Int) + 1) = none := by
    cases hg : getD (lastM σ.out) ((s : Int) + 1) with
    | none => rfl
    | some q => exact absurd ((sortK_mem _ _).2 (by rw [hg]; rfl)) hx
  cases hov : overS σ s with
  | true => exact (h.la s hs hov).1
  | false =>
    rcases h.lb s hs hov with ⟨_, _, h3⟩ | ⟨_, h2⟩
    · exact h3
    · rw [hn] at h2; cases h2
theorem LInv.left (h : LInv i und σ) {s : Nat} (hs : s < 8) : leftN (byM σ.out) (σ.out.length + 1) (cur (opnS σ s)) 0 = (opnS σ s).length := by
  have hlo := h.lo s hs
  have := left_chain (h.ch s hs) (opnS σ s).length (Nat.le_refl _) (σ.out.length - (opnS σ s).length) 0
  rw [List.take_length, show (opnS σ s).length + 1 + (σ.out.length - (opnS σ s).length) = σ.out.length + 1 by omega, Nat.zero_add] at this
  exact this
theorem LInv.undoes (h : LInv i und σ) (hi : i ≤ 1000000) : undoes σ.out = (lenSum σ.opn : Nat) := by
  unfold Go.Proofs.Ythgdinjgdjiknaa.undoes
  have hst : ∀ (l : List Int) (u : Int), (∀ x ∈ l, x ∈ sortK (lastM σ.out)) → l.foldl (ustep σ.out) u = l.foldl (fun u x => IntKind.i64.wrap (u + ((σ.opn.getD (x - 1).toNat []).length : Nat))) u := by
    intro l
    induction l with
    | nil => intro u _; rfl
    | cons x l ih =>
      intro u hl
      rw [List.foldl_cons, List.foldl_cons, ih _ (fun y hy => hl y (List.mem_cons_of_mem _ hy))]
      congr 1
      have hx := hl x (by simp)
      have h8 := h.keys8 x hx
      unfold ustep lastOf
      rw [h.key hx]
      show IntKind.i64.wrap (u + (leftN (byM σ.out) (σ.out.length + 1) (cur (opnS σ (x - 1).toNat)) 0 : Nat)) = _
      rw [h.left (s := (x - 1).toNat) (by omega)]
      rfl
  have hn := h.n
  have hsz : ((sortK (lastM σ.out)).map fun x => (σ.opn.getD (x - 1).toNat []).length).sum = lenSum σ.opn := by
    rw [← lenSum_L8 h.l2]
    refine sum_sub _ L8 _ (((sortK_perm _).nodup_iff).2 (lastM_nodup _)) (by decide) (fun x hx => mem_L8.2 (h.keys8 x hx)) (fun x hx hnx => ?_)
    have h8 := mem_L8.1 hx
    have := h.noOpen (s := (x - 1).toNat) (by omega) (by rw [show (((x - 1).toNat : Nat) : Int) + 1 = x by omega]; exact hnx)
    show (opnS σ (x - 1).toNat).length = 0
    rw [this]; rfl
  have hb : lenSum σ.opn ≤ 8 * 1000000 := by
    rw [← lenSum_L8 h.l2]
    refine Nat.le_trans (sum_le (b := 1000000) (fun x hx => ?_)) (by simp [L8])
    have h8 := mem_L8.1 hx
    have := h.lo (x - 1).toNat (by omega)
    show (opnS σ (x - 1).toNat).length ≤ _
    omega
  rw [hst _ _ (fun x hx => hx)]
  have := foldl_wrap (fun x => (σ.opn.getD (x - 1).toNat []).length) (sortK (lastM σ.out)) 0 (by rw [hsz]; omega)
  rw [hsz, Nat.zero_add] at this
  exact this
end

/-! ### Undoing the next, again and again -/
theorem next_ge (L : List (Int × Int)) : ∀ (n : Int), n ≤ L.foldl (fun n p => max n p.2) n ∧ ∀ p ∈ L, p.2 ≤ L.foldl (fun n p => max n p.2) n := by
  induction L with
  | nil => intro n; exact ⟨Int.le_refl _, by simp⟩
  | cons q L ih =>
    intro n
    have := ih (max n q.2)
    rw [List.foldl_cons]
    refine ⟨by omega, fun p hp => ?_⟩
    rcases List.mem_cons.1 hp with rfl | hp
    · omega
    · exact this.2 p hp
theorem next_mem (L : List (Int × Int)) : ∀ (n : Int), L.foldl (fun n p => max n p.2) n = n ∨ ∃ p ∈ L, p.2 = L.foldl (fun n p => max n p.2) n := by
  induction L with
  | nil => intro n; exact .inl rfl
  | cons q L ih =>
    intro n
    rw [List.foldl_cons]
    rcases ih (max n q.2) with h | ⟨p, hp, h⟩
    · rw [h]
      by_cases hq : n ≤ q.2
      · exact .inr ⟨q, by simp, by omega⟩
      · exact .inl (by omega)
    · exact .inr ⟨p, List.mem_cons_of_mem _ hp, h⟩
def oS (O : List (List Int)) (s : Nat) : List Int := O.getD s []
structure UInv (ks : List Int) (O : List (List Int)) (L : List (Int × Int)) (before : Int) (left : Nat) : Prop where
  len : O.length = 8
  lo : L = ks.map (fun x => (x, cur (oS O (x - 1).toNat)))
  k8 : ∀ x ∈ ks, 1 ≤ x ∧ x ≤ 8
  knd : ks.Nodup
  no : ∀ s : Nat, s < 8 → ((s : Int) + 1) ∉ ks → oS O s = []
  up : ∀ s, s < 8 → (oS O s).Pairwise (· < ·)
  pos : ∀ s, s < 8 → ∀ a ∈ oS O s, 0 < a ∧ a < before
  dis : ∀ s t, s < 8 → t < 8 → s ≠ t → ∀ a ∈ oS O s, a ∉ oS O t
  tot : lenSum O = left
theorem le_cur {o : List Int} (h : o.Pairwise (· < ·)) {a : Int} (ha : a ∈ o) : a ≤ cur o := by
  have hne : o ≠ [] := by rintro rfl; simp at ha
  obtain ⟨k, hk⟩ := List.getElem?_of_mem ha
  have hc := cur_of hne
  have hkl := (List.getElem?_eq_some_iff.1 hk).1
  by_cases he : k = o.length - 1
  · rw [he, hc] at hk
    have := Option.some.inj hk; omega
  · have := List.pairwise_iff_getElem.1 h k (o.length - 1) hkl (by omega) (by omega)
    have e1 := (List.getElem?_eq_some_iff.1 hk).2
    have e2 := (List.getElem?_eq_some_iff.1 hc).2
    omega
theorem take_lt {o : List Int} (h : o.Pairwise (· < ·)) {a : Int} (ha : a ∈ o.take (o.length - 1)) : a < cur o := by
  have hne : o ≠ [] := by rintro rfl; simp at ha
  obtain ⟨k, hk⟩ := List.getElem?_of_mem ha
  rw [List.getElem?_take] at hk
  split at hk
  · rename_i hkl
    have hc := cur_of hne
    have hkl2 := (List.getElem?_eq_some_iff.1 hk).1
    have := List.pairwise_iff_getElem.1 h k (o.length - 1) hkl2 (by omega) (by omega)
    have e1 := (List.getElem?_eq_some_iff.1 hk).2
    have e2 := (List.getElem?_eq_some_iff.1 hc).2
    omega
  · cases hk
theorem lenSum_zero {O : List (List Int)} (h : ∀ s, s < O.length → oS O s = []) : lenSum O = 0 := by
  induction O with
  | nil => rfl
  | cons o O ih =>
    have h0 := h 0 (by simp)
    have := ih (fun s hs => by have := h (s + 1) (by simp; omega); simpa [oS] using this)
    have h0' : o = [] := h0
    unfold lenSum at this ⊢
    rw [List.map_cons, List.sum_cons, h0', this]; rfl
theorem lenSum_set {O : List (List Int)} {s : Nat} (hs : s < O.length) (o : List Int) : lenSum (O.set s o) + (oS O s).length = lenSum O + o.length := by
  induction O generalizing s with
  | nil => simp at hs
  | cons q O ih =>
    cases s with
    | zero =>
      have : oS (q :: O) 0 = q := rfl
      rw [this]
      simp only [lenSum, List.set_cons_zero, List.map_cons, List.sum_cons]; omega
    | succ s =>
      have := ih (s := s) (by simpa using hs)
      have e : oS (q :: O) (s + 1) = oS O s := rfl
      rw [e]
      simp only [lenSum, List.set_cons_succ, List.map_cons, List.sum_cons] at this ⊢; omega
theorem oS_set {O : List (List Int)} {s : Nat} (hs : s < O.length) (o : List Int) (t : Nat) : oS (O.set s o) t = if t = s then o else oS O t := getD_setL _ _ _ _ _ hs
theorem UInv.cur_le {ks : List Int} {O : List (List Int)} {L : List (Int × Int)} {before : Int} {left : Nat} (h : UInv ks O L before left) {s : Nat} (hs : s < 8) : cur (oS O s) ≤ nextN L := by
  by_cases hx : ((s : Int) + 1) ∈ ks
  · have hm : (((s : Int) + 1), cur (oS O s)) ∈ L := by
      rw [h.lo]
      refine List.mem_map.2 ⟨_, hx, ?_⟩
      rw [show ((s : Int) + 1 - 1).toNat = s by omega]
    exact (next_ge L 0).2 _ hm
  · rw [h.no s hs hx]
    exact (next_ge L 0).1
/-- What is next. -/
theorem UInv.next {ks : List Int} {O : List (List Int)} {L : List (Int × Int)} {before : Int} {n : Nat} (h : UInv ks O L before (n + 1)) : 0 < nextN L ∧ nextN L < before ∧ ∃ s, s < 8 ∧ oS O s ≠ [] ∧ cur (oS O s) = nextN L ∧ ∀ t, t < 8 → t ≠ s → oS O t ≠ [] → cur (oS O t) ≠ nextN L := by
  have hex : ∃ s, s < 8 ∧ oS O s ≠ [] := by
    apply Classical.byContradiction
    intro hno
    have := lenSum_zero (O := O) (fun s hs => Classical.byContradiction fun hne => hno ⟨s, by have := h.len; omega, hne⟩)
    have := h.tot
    omega
  obtain ⟨s0, hs0, hne0⟩ := hex
  have hp0 := h.pos s0 hs0 _ (cur_mem hne0)
  have hc0 := h.cur_le hs0
  have hpos : 0 < nextN L := by omega
  rcases next_mem L 0 with he | ⟨p, hp, he⟩
  · have : nextN L = 0 := he
    omega
  · have hep : p.2 = nextN L := he
    rw [h.lo] at hp
    obtain ⟨x, hx, rfl⟩ := List.mem_map.1 hp
    have h8 := h.k8 x hx
    have hs : (x - 1).toNat < 8 := by omega
    simp only at hep
    have hne : oS O (x - 1).toNat ≠ [] := by
      intro e
      rw [e] at hep
      have : cur [] = 0 := rfl
      omega
    have hmem := cur_mem hne
    rw [hep] at hmem
    refine ⟨hpos, (h.pos _ hs _ hmem).2, (x - 1).toNat, hs, hne, hep, fun t ht hts hnt e => ?_⟩
    have := cur_mem hnt
    rw [e] at this
    exact h.dis t (x - 1).toNat ht hs hts _ this hmem
/-- Undone. -/
theorem UInv.undo {ks : List Int} {O : List (List Int)} {L : List (Int × Int)} {before : Int} {n : Nat} (h : UInv ks O L before (n + 1)) {s : Nat} (hs : s < 8) (hne : oS O s ≠ []) (hc : cur (oS O s) = nextN L)
    {L' : List (Int × Int)} (hL : (∃ (j : Nat) (p : Int × Int), L[j]? = some p ∧ p.2 = nextN L ∧ L' = L.set j (p.1, cur ((oS O s).take ((oS O s).length - 1)))) ∨ ((∀ p ∈ L, p.2 ≠ nextN L) ∧ L' = L)) :
    UInv ks (O.set s ((oS O s).take ((oS O s).length - 1))) L' (nextN L) n := by
  have h8 := h.len
  have hpos := h.next.1
  have hmem := cur_mem hne
  have hO := fun t => oS_set (O := O) (s := s) (by omega) ((oS O s).take ((oS O s).length - 1)) t
  have hlp : 0 < (oS O s).length := List.length_pos_iff.2 hne
  have hxs : ((s : Int) + 1) ∈ ks := Classical.byContradiction fun hx => hne (h.no s hs hx)
  refine ⟨by rw [List.length_set]; exact h8, ?_, h.k8, h.knd, ?_, ?_, ?_, ?_, ?_⟩
  · rcases hL with ⟨j, p, hj, hp, rfl⟩ | ⟨hno, _⟩
    · have hj' := hj
      rw [h.lo, List.getElem?_map, Option.map_eq_some_iff] at hj'
      obtain ⟨x, hx, rfl⟩ := hj'
      simp only at hp
      have hxk := List.mem_of_getElem? hx
      have hx8 := h.k8 x hxk
      have hsx : (x - 1).toNat = s := by
        apply Classical.byContradiction
        intro hne2
        have hne3 : oS O (x - 1).toNat ≠ [] := by
          intro e
          rw [e] at hp
          have : cur [] = 0 := rfl
          omega
        have := cur_mem hne3
        rw [hp, ← hc] at this
        exact h.dis (x - 1).toNat s (by omega) hs hne2 _ this hmem
      apply List.ext_getElem?
      intro k
      rw [List.getElem?_set, List.getElem?_map]
      by_cases hjk : j = k
      · subst hjk
        have hjl := (List.getElem?_eq_some_iff.1 hj).1
        rw [if_pos rfl, if_pos hjl, hx]
        simp only [Option.map_some]
        rw [hO, if_pos hsx]
      · rw [if_neg hjk]
        have hLk : L[k]? = ks[k]?.map (fun x => (x, cur (oS O (x - 1).toNat))) := by rw [h.lo, List.getElem?_map]
        rw [hLk]
        cases hk : ks[k]? with
        | none => rfl
        | some y =>
          have hyk := List.mem_of_getElem? hk
          have hy8 := h.k8 y hyk
          have hyx : y ≠ x := by
            rintro rfl
            have h1 := (List.getElem?_eq_some_iff.1 hk)
            have h2 := (List.getElem?_eq_some_iff.1 hx)
            exact hjk ((List.getElem_inj h.knd).1 (h2.2.trans h1.2.symm))
          simp only [Option.map_some]
          rw [hO, if_neg (by omega)]
    · exfalso
      refine hno ((s : Int) + 1, cur (oS O s)) ?_ hc
      rw [h.lo]
      refine List.mem_map.2 ⟨_, hxs, ?_⟩
      rw [show ((s : Int) + 1 - 1).toNat = s by omega]
  · intro t ht hx
    rw [hO]
    split
    · rename_i e; subst e; exact absurd hxs hx
    · exact h.no t ht hx
  · intro t ht
    rw [hO]
    split
    · exact (h.up s hs).sublist (List.take_sublist _ _)
    · exact h.up t ht
  · intro t ht a ha
    rw [hO] at ha
    split at ha
    · have := take_lt (h.up s hs) ha
      have := h.pos s hs a (List.mem_of_mem_take ha)
      omega
    · rename_i hts
      have h1 := h.pos t ht a ha
      have h2 := le_cur (h.up t ht) ha
      have h3 := h.cur_le ht
      have h4 : a ≠ nextN L := by
        intro e
        rw [e, ← hc] at ha
        exact h.dis t s ht hs hts _ ha hmem
      omega
  · intro t u ht hu htu a ha
    rw [hO] at ha ⊢
    have ha' : a ∈ oS O t := by
      split at ha
      · rename_i e; rw [e]; exact List.mem_of_mem_take ha
      · exact ha
    split
    · rename_i e
      intro hb
      exact h.dis t u ht hu htu a ha' (by rw [e]; exact List.mem_of_mem_take hb)
    · exact h.dis t u ht hu htu a ha'
  · have := lenSum_set (O := O) (s := s) (by omega) ((oS O s).take ((oS O s).length - 1))
    have h2 := h.tot
    rw [List.length_take] at this
    omega
/-- Where it begins. -/
theorem LInv.start {i : Nat} {und : Nat → Prop} {σ : LS} (h : LInv i und σ) (hi : i ≤ 1000000) : UInv (sortK (lastM σ.out)) σ.opn (losers σ.out) 4611686018427387904 (lenSum σ.opn) where
  len := h.l2
  lo := by
    unfold losers
    refine List.map_congr_left (fun x hx => ?_)
    unfold lastOf
    rw [h.key hx]; rfl
  k8 := h.keys8
  knd := ((sortK_perm _).nodup_iff).2 (lastM_nodup _)
  no := fun s hs hx => h.noOpen hs hx
  up := h.up
  pos := fun s hs a ha => by have := h.obn hs a ha; omega
  dis := fun s t hs ht hst a ha hb => by
    obtain ⟨k, hk⟩ := List.getElem?_of_mem ha
    obtain ⟨k', hk'⟩ := List.getElem?_of_mem hb
    obtain ⟨_, r, h1, _, h2, _⟩ := h.ch s hs k a hk
    obtain ⟨_, r', h1', _, h2', _⟩ := h.ch t ht k' a hk'
    rw [h1] at h1'
    cases h1'
    omega
  tot := rfl

end Go.Proofs.Ythgdinjgdjiknaa
