/- The walk of a region that draws its order. -/
import Derived.Test.YthbngnlmgplijaaGreatDoorAlDraw
namespace Go.Al
set_option linter.unusedVariables false
set_option linter.unusedSimpArgs false
set_option linter.unusedSectionVars false

def bnds (e : Edge) : Bool := match e.ground with
  | .textOnly _ => false
  | .gcOnly _ => false
  | _ => true
theorem bnds_eq (e : Edge) : Region.binds .any e = bnds e := by
  obtain ⟨on, g⟩ := e; cases g <;> rfl

def tb (m i : Nat) : Bool := Nat.beq (Nat.land (Nat.shiftRight m i) 1) 1
theorem tb_eq (m i : Nat) : tb m i = m.testBit i := by
  have h1 : Nat.land (Nat.shiftRight m i) 1 = (m >>> i) &&& 1 := rfl
  unfold tb Nat.testBit
  rw [h1, Nat.and_comm 1, Nat.and_one_is_mod]
  have := Nat.mod_two_eq_zero_or_one (m >>> i)
  rcases this with h | h <;> rw [h] <;> rfl
def setB (m i : Nat) : Nat := Nat.lor m (Nat.shiftLeft 1 i)
theorem tb_setB (m i j : Nat) : tb (setB m i) j = (tb m j || Nat.beq j i) := by
  rw [tb_eq, tb_eq]
  have h1 : setB m i = m ||| (1 <<< i) := rfl
  rw [h1, Nat.testBit_or, Nat.shiftLeft_eq, Nat.one_mul, Nat.testBit_two_pow]
  congr 1
  cases h : Nat.beq j i with
  | false =>
    rw [decide_eq_false_iff_not]
    rintro rfl
    rw [Nat.beq_refl] at h; cases h
  | true => have := Nat.eq_of_beq_eq_true h; simp [this]
theorem tb_zero (j : Nat) : tb 0 j = false := by rw [tb_eq]; simp

def predM : List Edge → Nat
  | [] => 0
  | e :: l => bif bnds e then setB (predM l) e.on else predM l
theorem predM_tb (l : List Edge) (j : Nat) : tb (predM l) j = l.any fun e => bnds e && Nat.beq j e.on := by
  induction l with
  | nil => simp [predM, tb_zero]
  | cons e l ih =>
    simp only [predM, List.any_cons]
    cases bnds e with
    | false => simpa using ih
    | true => simp only [cond_true, tb_setB, ih, Bool.true_and]; rw [Bool.or_comm]

def subB (p m : Nat) : Bool := Nat.beq (Nat.land p m) p
theorem subB_iff (p m : Nat) : subB p m = true ↔ ∀ j, tb p j = true → tb m j = true := by
  have h1 : Nat.land p m = p &&& m := rfl
  unfold subB
  rw [h1]
  constructor
  · intro h j hj
    have h := Nat.eq_of_beq_eq_true h
    rw [tb_eq] at *
    rw [← h, Nat.testBit_and] at hj
    simp only [Bool.and_eq_true] at hj
    exact hj.2
  · intro h
    have : p &&& m = p := by
      apply Nat.eq_of_testBit_eq
      intro j
      rw [Nat.testBit_and]
      have := h j
      rw [tb_eq, tb_eq] at this
      cases hp : p.testBit j with
      | false => rfl
      | true => rw [this hp]; rfl
    rw [this]; exact Nat.beq_refl _

def rdyB (m : Nat) (o : Oper) (i : Nat) : Bool := !(tb m i) && subB (predM o.after.toList) m

def Rl (ops : Array Oper) (listed : Array Bool) (m : Nat) : Prop := listed.size = ops.size ∧ ∀ j, listed.getD j false = tb m j

theorem Rl.ready {ops : Array Oper} {listed : Array Bool} {m : Nat} (h : Rl ops listed m) {i : Nat} : i ∈ Region.ready .any ops listed ↔ ∃ o, ops[i]? = some o ∧ rdyB m o i = true := by
  rw [mem_ready]
  have hgd : ∀ o, ops[i]? = some o → listed.getD i true = tb m i := fun o ho => by
    rw [← h.2 i]
    have : i < listed.size := by rw [h.1]; exact (Array.getElem?_eq_some_iff.1 ho).1
    simp [this]
  have hall : ∀ o : Oper, (∀ e ∈ o.after, Region.binds .any e = true → listed.getD e.on false = true) ↔ subB (predM o.after.toList) m = true := fun o => by
    rw [subB_iff]
    constructor
    · intro hh j hj
      rw [predM_tb, List.any_eq_true] at hj
      obtain ⟨e, he, hb⟩ := hj
      simp only [Bool.and_eq_true] at hb
      have := hh e (by simpa using he) (by rw [bnds_eq]; exact hb.1)
      rw [h.2] at this
      rw [Nat.eq_of_beq_eq_true hb.2]; exact this
    · intro hh e he hb
      rw [h.2]
      refine hh _ ?_
      rw [predM_tb, List.any_eq_true]
      exact ⟨e, by simpa using he, by rw [bnds_eq] at hb; simp [hb, Nat.beq_refl]⟩
  constructor
  · rintro ⟨h0, o, ho, ha⟩
    refine ⟨o, ho, ?_⟩
    rw [hgd o ho] at h0
    simp [rdyB, h0, (hall o).1 ha]
  · rintro ⟨o, ho, hr⟩
    simp only [rdyB, Bool.and_eq_true, Bool.not_eq_true'] at hr
    exact ⟨by rw [hgd o ho]; exact hr.1, o, ho, (hall o).2 hr.2⟩

theorem Rl.set {ops : Array Oper} {listed : Array Bool} {m i : Nat} (h : Rl ops listed m) (hi : i < ops.size) : Rl ops (listed.setIfInBounds i true) (setB m i) := by
  refine ⟨by simp [h.1], fun j => ?_⟩
  rw [tb_setB]
  by_cases hj : i = j
  · subst hj
    have : i < listed.size := by rw [h.1]; exact hi
    simp [this, Nat.beq_refl]
  · rw [getD_set_ne false hj, h.2]
    have : Nat.beq j i = false := by cases hb : Nat.beq j i with | false => rfl | true => exact absurd (Nat.eq_of_beq_eq_true hb).symm hj
    simp [this]

theorem Rl.none (ops : Array Oper) : Rl ops (Array.replicate ops.size false) 0 := by
  refine ⟨by simp, fun j => ?_⟩
  rw [tb_zero]; simp only [Array.getD_eq_getD_getElem?, Array.getElem?_replicate]; split <;> rfl

/-- The first place at which p holds. -/
def scan (p : Oper → Nat → Bool) : List Oper → Nat → Option Nat
  | [], _ => none
  | o :: l, i => bif p o i then some i else scan p l (i + 1)
theorem scan_some {p : Oper → Nat → Bool} : ∀ {l : List Oper} {k i : Nat}, scan p l k = some i → ∃ o, l[i - k]? = some o ∧ k ≤ i ∧ p o i = true
  | [], _, _, h => by cases h
  | o :: l, k, i, h => by
    simp only [scan] at h
    cases hp : p o k with
    | true => simp only [hp, cond_true, Option.some.injEq] at h; subst h; exact ⟨o, by simp, Nat.le_refl _, hp⟩
    | false =>
      simp only [hp, cond_false] at h
      obtain ⟨o', h1, h2, h3⟩ := scan_some h
      refine ⟨o', ?_, by omega, h3⟩
      rw [show i - k = (i - (k + 1)) + 1 by omega]; simpa using h1
theorem scan_none {p : Oper → Nat → Bool} : ∀ {l : List Oper} {k : Nat}, scan p l k = none → ∀ j o, l[j]? = some o → p o (k + j) = false
  | [], _, _, j, o, hj => by simp at hj
  | o :: l, k, h, j, o', hj => by
    simp only [scan] at h
    cases hp : p o k with
    | true => simp [hp] at h
    | false =>
      simp only [hp, cond_false] at h
      cases j with
      | zero => simp at hj; subst hj; exact hp
      | succ j => have := scan_none h j o' (by simpa using hj); rw [show k + (j + 1) = k + 1 + j by omega]; exact this

def hasE (i : Nat) : List Edge → Bool
  | [] => false
  | e :: l => bif bnds e && Nat.beq e.on i then true else hasE i l
theorem hasE_spec {i : Nat} : ∀ {l : List Edge}, hasE i l = true → ∃ e ∈ l, bnds e = true ∧ e.on = i
  | [], h => by cases h
  | e :: l, h => by
    simp only [hasE] at h
    cases hb : bnds e && Nat.beq e.on i with
    | true => simp only [Bool.and_eq_true] at hb; exact ⟨e, by simp, hb.1, Nat.eq_of_beq_eq_true hb.2⟩
    | false => simp only [hb, cond_false] at h; obtain ⟨e', h1, h2⟩ := hasE_spec h; exact ⟨e', by simp [h1], h2⟩
def maskN : List Nat → Nat
  | [] => 0
  | t :: l => setB (maskN l) t
theorem maskN_tb (l : List Nat) (j : Nat) (h : j ∈ l) : tb (maskN l) j = true := by
  induction l with
  | nil => cases h
  | cons t l ih =>
    simp only [maskN, tb_setB]
    rcases List.mem_cons.1 h with rfl | h
    · simp [Nat.beq_refl]
    · simp [ih h]
def dsM (o : Oper) : Nat := match o.dst with
  | some d => setB 0 d
  | none => 0
def rdM (ops : Array Oper) (o : Oper) : Nat := maskN (o.looksAt ops)
def apM (ops : Array Oper) (x y : Oper) : Bool := Nat.beq (Nat.land (dsM x) (Nat.lor (rdM ops y) (dsM y))) 0 && Nat.beq (Nat.land (dsM y) (rdM ops x)) 0
theorem land_zero {a b j : Nat} (h : Nat.beq (Nat.land a b) 0 = true) (ha : tb a j = true) : tb b j = false := by
  have h1 : Nat.land a b = a &&& b := rfl
  have h := Nat.eq_of_beq_eq_true h
  rw [h1] at h
  rw [tb_eq] at *
  have := Nat.testBit_and a b j
  rw [h, ha, Nat.zero_testBit, Bool.true_and] at this
  exact this.symm
theorem apM_apart {ops : Array Oper} {x y : Oper} (h : apM ops x y = true) : x.apart ops y = true := by
  unfold apM at h
  rw [Bool.and_eq_true] at h
  obtain ⟨h1, h2⟩ := h
  have hd : ∀ (o : Oper) d, o.dst = some d → tb (dsM o) d = true := fun o d e => by simp [dsM, e, tb_setB, Nat.beq_refl]
  have hc : ∀ (o : Oper) d, tb (rdM ops o) d = false → (o.looksAt ops).contains d = false := fun o d e => by
    cases hcc : (o.looksAt ops).contains d with
    | false => rfl
    | true =>
      have := maskN_tb (o.looksAt ops) d (by simpa using hcc)
      unfold rdM at e
      rw [this] at e; cases e
  unfold Oper.apart
  rw [Bool.and_eq_true]
  constructor
  · cases hx : x.dst with
    | none => rfl
    | some d =>
      have := land_zero h1 (hd x d hx)
      have h3 : Nat.lor (rdM ops y) (dsM y) = rdM ops y ||| dsM y := rfl
      rw [tb_eq, h3, Nat.testBit_or, Bool.or_eq_false_iff, ← tb_eq, ← tb_eq] at this
      have hy : y.dst ≠ some d := fun e => by have := hd y d e; simp_all
      show (!(y.looksAt ops).contains d && y.dst != some d) = true
      rw [hc y d this.1]; simp [hy]
  · cases hy : y.dst with
    | none => rfl
    | some d => show (!(x.looksAt ops).contains d) = true; rw [hc x d (land_zero h2 (hd y d hy))]; rfl
def freeL (ops : Array Oper) (oi : Oper) (i m : Nat) : List Oper → Nat → Bool
  | [], _ => true
  | oj :: l, j => bif (Nat.beq j i || tb m j || hasE i oj.after.toList || apM ops oi oj) then freeL ops oi i m l (j + 1) else false
theorem freeL_spec {ops : Array Oper} {oi : Oper} {i m : Nat} : ∀ {l : List Oper} {k : Nat}, freeL ops oi i m l k = true → ∀ j oj, l[j]? = some oj → k + j ≠ i → tb m (k + j) = false →
    (∀ e ∈ oj.after, Region.binds .any e = true → e.on ≠ i) → oi.apart ops oj = true
  | [], _, _, j, oj, hj, _, _, _ => by simp at hj
  | o :: l, k, h, j, oj, hj, hne, hun, hno => by
    simp only [freeL] at h
    cases hb : (Nat.beq k i || tb m k || hasE i o.after.toList || apM ops oi o) with
    | false => simp [hb] at h
    | true =>
      simp only [hb, cond_true] at h
      cases j with
      | zero =>
        simp at hj; subst hj
        simp only [Bool.or_eq_true] at hb
        rcases hb with ((hb | hb) | hb) | hb
        · exact absurd (Nat.eq_of_beq_eq_true hb) hne
        · rw [Nat.add_zero] at hun; rw [hun] at hb; cases hb
        · obtain ⟨e, he, hb, hon⟩ := hasE_spec hb
          exact absurd hon (hno e (by simpa using he) (by rw [bnds_eq]; exact hb))
        · exact apM_apart hb
      | succ j => exact freeL_spec h j oj (by simpa using hj) (by omega) (by rw [show k + 1 + j = k + (j + 1) by omega]; exact hun) hno

/-- Ancestors. -/
def ancM (W : List Nat) : List Edge → Nat
  | [] => 0
  | e :: l => bif bnds e then Nat.lor (setB (ancM W l) e.on) (W.getD e.on 0) else ancM W l
theorem ancM_tb (W : List Nat) (l : List Edge) (j : Nat) (h : tb (ancM W l) j = true) : ∃ e ∈ l, bnds e = true ∧ (e.on = j ∨ tb (W.getD e.on 0) j = true) := by
  induction l with
  | nil => simp [ancM, tb_zero] at h
  | cons e l ih =>
    simp only [ancM] at h
    cases hb : bnds e with
    | false => simp only [hb, cond_false] at h; obtain ⟨e', h1, h2⟩ := ih h; exact ⟨e', by simp [h1], h2⟩
    | true =>
      simp only [hb, cond_true] at h
      have h1 : Nat.lor (setB (ancM W l) e.on) (W.getD e.on 0) = setB (ancM W l) e.on ||| W.getD e.on 0 := rfl
      rw [tb_eq, h1, Nat.testBit_or, ← tb_eq, ← tb_eq, tb_setB, Bool.or_eq_true, Bool.or_eq_true] at h
      rcases h with (h | h) | h
      · obtain ⟨e', h1, h2⟩ := ih h; exact ⟨e', by simp [h1], h2⟩
      · exact ⟨e, by simp, hb, .inl (Nat.eq_of_beq_eq_true h).symm⟩
      · exact ⟨e, by simp, hb, .inr h⟩
def mkW : List Oper → List Nat → List Nat
  | [], acc => acc
  | o :: l, acc => mkW l (acc ++ [ancM acc o.after.toList])
def lowE (k : Nat) : List Edge → Bool
  | [] => true
  | e :: l => bif !bnds e || Nat.blt e.on k then lowE k l else false
theorem lowE_spec {k : Nat} : ∀ {l : List Edge}, lowE k l = true → ∀ e ∈ l, bnds e = true → e.on < k
  | [], _, e, he, _ => by simp at he
  | x :: l, h, e, he, hbe => by
    simp only [lowE] at h
    cases hb : !bnds x || Nat.blt x.on k with
    | false => rw [hb] at h; cases h
    | true =>
      simp only [hb, cond_true] at h
      rcases List.mem_cons.1 he with rfl | he
      · rw [hbe] at hb; simpa using hb
      · exact lowE_spec h e he hbe
def okW (W : List Nat) : List Oper → Nat → Bool
  | [], _ => true
  | o :: l, k => bif Nat.beq (W.getD k 0) (ancM W o.after.toList) && lowE k o.after.toList then okW W l (k + 1) else false
theorem okW_spec {W : List Nat} : ∀ {l : List Oper} {k : Nat}, okW W l k = true → ∀ j o, l[j]? = some o → W.getD (k + j) 0 = ancM W o.after.toList ∧ ∀ e ∈ o.after.toList, bnds e = true → e.on < k + j
  | [], _, _, j, o, hj => by simp at hj
  | x :: l, k, h, j, o, hj => by
    simp only [okW] at h
    cases hb : Nat.beq (W.getD k 0) (ancM W x.after.toList) && lowE k x.after.toList with
    | false => rw [hb] at h; cases h
    | true =>
      simp only [hb, cond_true] at h
      simp only [Bool.and_eq_true] at hb
      cases j with
      | zero => simp at hj; subst hj; exact ⟨Nat.eq_of_beq_eq_true hb.1, lowE_spec hb.2⟩
      | succ j => have := okW_spec h j o (by simpa using hj); rw [show k + (j + 1) = k + 1 + j by omega]; exact this

/-- Who waits, however far, is not ready while what it waits for has not come up. -/
theorem anc_listed {ops : Array Oper} {W : List Nat} (hW : okW W ops.toList 0 = true) {listed : Array Bool} (hd : Dc ops listed) {i : Nat} :
    ∀ p o, ops[p]? = some o → listed.getD p false = true → tb (W.getD p 0) i = true → listed.getD i false = true := by
  intro p
  induction p using Nat.strongRecOn with
  | _ p ih =>
    intro o ho hl ht
    obtain ⟨h1, h2⟩ := okW_spec hW p o (by simpa using ho)
    rw [Nat.zero_add] at h1 h2
    rw [h1] at ht
    obtain ⟨e, he, hb, hc⟩ := ancM_tb _ _ _ ht
    have hle := hd p o ho hl e (by simpa using he) (by rw [bnds_eq]; exact hb)
    rcases hc with rfl | hc
    · exact hle
    · have hlt : e.on < ops.size := by have := h2 e he hb; have := (Array.getElem?_eq_some_iff.1 ho).1; omega
      exact ih e.on (h2 e he hb) ops[e.on] (by simp [hlt]) hle hc

def aOk (P : Program) (W : List Nat) (i m : Nat) : List Oper → Nat → Bool
  | [], _ => true
  | o :: l, k => bif (!isEff P o || tb m k || tb (W.getD k 0) i) then aOk P W i m l (k + 1) else false
theorem aOk_spec {P : Program} {W : List Nat} {i m : Nat} : ∀ {l : List Oper} {k : Nat}, aOk P W i m l k = true → ∀ j o, l[j]? = some o → isEff P o = true → tb m (k + j) = true ∨ tb (W.getD (k + j) 0) i = true
  | [], _, _, j, o, hj, _ => by simp at hj
  | x :: l, k, h, j, o, hj, he => by
    simp only [aOk] at h
    cases hb : (!isEff P x || tb m k || tb (W.getD k 0) i) with
    | false => rw [hb] at h; cases h
    | true =>
      simp only [hb, cond_true] at h
      cases j with
      | zero => simp at hj; subst hj; simp only [he, Bool.not_true, Bool.false_or, Bool.or_eq_true] at hb; exact hb
      | succ j => have := aOk_spec h j o (by simpa using hj) he; rw [show k + (j + 1) = k + 1 + j by omega]; exact this

/-- A guarded operation, in its region. -/
def gx (P : Program) (ops : Array Oper) (f : Fr) (o : Oper) (w : World) (k : KV) : Prop := match o.guard with
  | none => exO P f o w k
  | some (j, b) => Gd (isB b (yl ops f j)) (fun k' => exO P f o w k') w k

/-- Is there a read beside an act? -/
def incB (P : Program) (W : List Nat) (r : Nat) : List Oper → Nat → Bool
  | [], _ => false
  | o :: l, k => bif isEff P o && !(tb (W.getD k 0) r) && !(tb (W.getD r 0) k) then true else incB P W r l (k + 1)
def CK (hc : Bool) (C : World → Prop) (w : World) (p : Prop) : Prop := bif hc then C w ∧ p else p

def isPu (P : Program) (f : Fr) (o : Oper) : Bool := match pu P f o with
  | some _ => true
  | none => false

/-- A read that stands beside an act. -/
def cand (P : Program) (W : List Nat) (L : List Oper) (o : Oper) (i : Nat) : Bool := !isEff P o && !isPu P (fun _ => undef) o && incB P W i L 0
/-- No act of those done waits for i. -/
def noD (P : Program) (W : List Nat) (i m : Nat) : List Oper → Nat → Bool
  | [], _ => true
  | o :: l, k => bif isEff P o && tb m k && tb (W.getD k 0) i then false else noD P W i m l (k + 1)
/-- May a read that stands beside an act still be open? -/
def stillB (P : Program) (W : List Nat) (L : List Oper) (m : Nat) : List Oper → Nat → Bool
  | [], _ => false
  | o :: l, k => bif cand P W L o k && noD P W k m L 0 then true else stillB P W L m l (k + 1)
def Still (P : Program) (ops : Array Oper) (W : List Nat) (listed : Array Bool) : Prop := ∃ i o, ops[i]? = some o ∧ cand P W ops.toList o i = true ∧ ∀ j oj, ops[j]? = some oj → isEff P oj = true → listed.getD j false = true → tb (W.getD j 0) i = false
theorem noD_of {P : Program} {W : List Nat} {i m : Nat} : ∀ {l : List Oper} {k : Nat}, (∀ j o, l[j]? = some o → isEff P o = true → tb m (k + j) = true → tb (W.getD (k + j) 0) i = false) → noD P W i m l k = true
  | [], _, _ => rfl
  | o :: l, k, h => by
    simp only [noD]
    have h0 := h 0 o rfl
    rw [Nat.add_zero] at h0
    have : (isEff P o && tb m k && tb (W.getD k 0) i) = false := by
      cases h1 : isEff P o with
      | false => rfl
      | true =>
        cases h2 : tb m k with
        | false => rfl
        | true => rw [h0 h1 h2]; rfl
    rw [this]
    exact noD_of fun j o' hj => by have := h (j + 1) o' (by simpa using hj); rw [show k + 1 + j = k + (j + 1) by omega]; exact this
theorem stillB_of {P : Program} {ops : Array Oper} {W : List Nat} {L : List Oper} {m : Nat} : ∀ {l : List Oper} {k : Nat} {i : Nat} {o : Oper}, l[i]? = some o → cand P W L o (k + i) = true → noD P W (k + i) m L 0 = true → stillB P W L m l k = true
  | [], _, i, o, hi, _, _ => by simp at hi
  | x :: l, k, i, o, hi, hc, hn => by
    simp only [stillB]
    cases i with
    | zero =>
      simp at hi; subst hi
      rw [Nat.add_zero] at hc hn
      rw [hc, hn]; rfl
    | succ i =>
      have := stillB_of (ops := ops) (m := m) (l := l) (k := k + 1) (i := i) (o := o) (by simpa using hi) (by rw [show k + 1 + i = k + (i + 1) by omega]; exact hc) (by rw [show k + 1 + i = k + (i + 1) by omega]; exact hn)
      rw [this]
      cases cand P W L x k && noD P W k m L 0 <;> rfl
theorem Still.b {P : Program} {ops : Array Oper} {W : List Nat} {listed : Array Bool} {m : Nat} (hr : Rl ops listed m) (h : Still P ops W listed) : stillB P W ops.toList m ops.toList 0 = true := by
  obtain ⟨i, o, hi, hc, hn⟩ := h
  refine stillB_of (ops := ops) (i := i) (o := o) (by simpa using hi) (by rw [Nat.zero_add]; exact hc) (noD_of fun j oj hj he hm => ?_)
  rw [Nat.zero_add] at hm ⊢
  rw [Nat.zero_add]
  exact hn j oj (by simpa using hj) he (by rw [hr.2]; exact hm)
/-- The worlds' common ground, as long as it is needed. -/
def CN (P : Program) (ops : Array Oper) (W : List Nat) (C : World → Prop) (listed : Array Bool) (w : World) : Prop := Still P ops W listed → C w
theorem CN.more {P : Program} {ops : Array Oper} {W : List Nat} {C : World → Prop} {listed : Array Bool} {w : World} (h : CN P ops W C listed w) (i : Nat) : CN P ops W C (listed.setIfInBounds i true) w := by
  rintro ⟨r, o, h1, h2, h3⟩
  exact h ⟨r, o, h1, h2, fun j oj hj he hl => h3 j oj hj he (getD_set_true hl)⟩
theorem CN.less {P : Program} {ops : Array Oper} {W : List Nat} {C : World → Prop} {i : Nat} {o : Oper} (ho : ops[i]? = some o) (hne : isEff P o = false) : ∀ listed w, CN P ops W C (listed.setIfInBounds i true) w → CN P ops W C listed w := by
  rintro listed w h ⟨r, or, h1, h2, h3⟩
  refine h ⟨r, or, h1, h2, fun j oj hj he hl => ?_⟩
  by_cases hij : i = j
  · subst hij; rw [ho] at hj; cases hj; rw [hne] at he; cases he
  · exact h3 j oj hj he (by rwa [getD_set_ne false hij] at hl)

/-- Each of those that are ready. -/
def allR (p : Oper → Nat → Bool) (X : Oper → Nat → Prop) : List Oper → Nat → Prop
  | [], _ => True
  | o :: l, k => bif p o k then X o k ∧ allR p X l (k + 1) else allR p X l (k + 1)
theorem allR_spec {p : Oper → Nat → Bool} {X : Oper → Nat → Prop} : ∀ {l : List Oper} {k : Nat}, allR p X l k → ∀ j o, l[j]? = some o → p o (k + j) = true → X o (k + j)
  | [], _, _, j, o, hj, _ => by simp at hj
  | x :: l, k, h, j, o, hj, hp => by
    simp only [allR] at h
    cases j with
    | zero =>
      simp at hj; subst hj
      rw [Nat.add_zero] at hp ⊢
      rw [hp] at h
      exact h.1
    | succ j =>
      have e : k + (j + 1) = k + 1 + j := by omega
      rw [e] at hp ⊢
      cases hx : p x k with
      | true => rw [hx] at h; exact allR_spec h.2 j o (by simpa using hj) hp
      | false => rw [hx] at h; exact allR_spec h j o (by simpa using hj) hp

def KDgo (P : Program) (n : Nat) (ops : Array Oper) (L : List Oper) (W : List Nat) (hc : Bool) (C : World → Prop) (k : Fr → World → Prop) : Nat → Nat → Fr → World → Prop
  | 0, m, f, w => match scan (rdyB m) L 0 with
    | none => k f w
    | some _ => False
  | fuel + 1, m, f, w => match scan (fun o i => rdyB m o i && !isEff P o) L 0 with
    | some i => (match L[i]? with
      | some o => bif freeL ops o i m L 0 then
          (bif isPu P f o then gx P ops f o w (fun v w' => KDgo P n ops L W hc C k fuel (setB m i) (putF n f o.dst v) w')
           else bif aOk P W i m L 0 then gx P ops f o w (fun v w' => w' = w ∧ KDgo P n ops L W hc C k fuel (setB m i) (putF n f o.dst v) w)
           else bif cand P W L o i then ∃ v, (∀ w', C w' → gx P ops f o w' (fun u w2 => u = v ∧ w2 = w')) ∧ KDgo P n ops L W hc C k fuel (setB m i) (putF n f o.dst v) w else False)
        else False
      | none => False)
    | none => match scan (rdyB m) L 0 with
      | none => k f w
      | some i => (match L[i]? with
        | some o => (match scan (fun o j => rdyB m o j && !(Nat.beq j i)) L 0 with
          | none => gx P ops f o w (fun v w' => CK (hc && stillB P W L (setB m i) L 0) C w' (KDgo P n ops L W hc C k fuel (setB m i) (putF n f o.dst v) w'))
          | some _ => allR (rdyB m) (fun o i => gx P ops f o w (fun v w' => CK (hc && stillB P W L (setB m i) L 0) C w' (KDgo P n ops L W hc C k fuel (setB m i) (putF n f o.dst v) w'))) L 0)
        | none => False)

def needC (P : Program) (W : List Nat) (L : List Oper) : List Oper → Nat → Bool
  | [], _ => false
  | o :: l, k => bif cand P W L o k then true else needC P W L l (k + 1)
def selB : List Oper → Bool
  | [] => true
  | o :: l => (match o.op with
    | .select .. => false
    | _ => selB l)

def KD : DrawK := fun P n ops f w k =>
  bif selB ops.toList && okW (mkW ops.toList []) ops.toList 0 then
    (bif needC P (mkW ops.toList []) ops.toList ops.toList 0 then ∃ C : World → Prop, C w.drew ∧ KDgo P n ops ops.toList (mkW ops.toList []) true C k ops.toList.length 0 f w.drew
     else KDgo P n ops ops.toList (mkW ops.toList []) false (fun _ => True) k ops.toList.length 0 f w.drew)
  else False

/-! ### Soundness -/

theorem quiet_sem {P : Program} {f : Fr} {o : Oper} (he : isEff P o = false) (hp : pu P f o = none) : ∃ s : Sem Value, execOp (ev f) o = (do pure (Next.value (← s))) := by
  obtain ⟨dst, op, type, pos, after, guard⟩ := o
  cases op <;> simp only [isEff, reduceCtorEq] at he <;> first
    | exact ⟨_, rfl⟩
    | (simp only [pu, reduceCtorEq] at hp; done)
    | skip
  rename_i c
  obtain ⟨callee, args, argTypes⟩ := c
  cases callee <;> simp only [reduceCtorEq] at he
  rename_i b
  cases b <;> simp only [reduceCtorEq] at he <;> exact ⟨_, rfl⟩

/-- What a quiet operation's meaning says of its run. -/
theorem quiet_run {P : Program} {f : Fr} {o : Oper} {w : World} {k : KV} (he : isEff P o = false) (h : exO P f o w k) : ∃ v w', (execOp (ev f) o).run P w = .ok (.value v) w' ∧ k v w' := by
  have hr := exO_run h
  cases hp : pu P f o with
  | some r =>
    cases r with
    | none => rw [exO_eq] at h; simp only [hp] at h; exact h.out.elim
    | some v => rw [pu_run hp] at hr ⊢; exact ⟨v, w, rfl, hr⟩
  | none =>
    obtain ⟨s, hs⟩ := quiet_sem he hp
    rw [hs] at hr ⊢
    simp only [Sem.run_bind] at hr ⊢
    cases hx : s.run P w with
    | ok v w' => rw [hx] at hr; exact ⟨v, w', rfl, hr⟩
    | halt x w' => rw [hx] at hr; exact hr.elim

theorem isPu_some {P : Program} {f : Fr} {o : Oper} (h : isPu P f o = true) : ∃ r, pu P f o = some r := by
  unfold isPu at h; split at h
  · rename_i r hr; exact ⟨r, hr⟩
  · cases h

theorem gx_wanted {P : Program} {ops : Array Oper} {a : Act} {o : Oper} {w : World} {k : KV} (h : gx P ops (FR a) o w k) :
    (Region.wanted o (yielded ops a.tmps) = true ∧ exO P (FR a) o w k) ∨ (Region.wanted o (yielded ops a.tmps) = false ∧ k undef w) := by
  unfold gx at h
  cases hg : o.guard with
  | none => simp only [hg] at h; exact .inl ⟨by simp [Region.wanted, hg], h⟩
  | some g =>
    obtain ⟨j, b⟩ := g
    simp only [hg] at h
    have hw : Region.wanted o (yielded ops a.tmps) = isB b (yl ops (FR a) j) := by simp only [Region.wanted, hg]; exact yielded_isB ops a j b
    rw [hw]
    have h := h.out
    unfold Gd0 at h
    cases hc : isB b (yl ops (FR a) j) with
    | true => simp only [hc, cond_true] at h; exact .inl ⟨rfl, h⟩
    | false => simp only [hc, cond_false] at h; exact .inr ⟨rfl, h⟩

theorem selB_spec : ∀ {l : List Oper}, selB l = true → ∀ (j : Nat) (o : Oper) (cs : Array SelectCase) (b : Bool), l[j]? = some o → o.op ≠ .select cs b
  | [], _, j, o, _, _, hj => by simp at hj
  | x :: l, h, j, o, cs, b, hj => by
    simp only [selB] at h
    split at h
    · cases h
    · rename_i hx
      cases j with
      | zero => simp at hj; subst hj; exact hx cs b
      | succ j => exact selB_spec h j o cs b (by simpa using hj)

theorem put_rel {ops : Array Oper} {M : List Nat} {f0 : Fr} {a : Act} {o : Oper} {i : Nat} (ho : ops[i]? = some o) (hM : ∀ j, memB (dsts ops.toList) j = true → memB M j = true)
    (hf : ∀ j, memB M j = false → FR a j = f0 j) (v : Value) : ∀ j, memB M j = false → FR (a.put o.dst v) j = f0 j := by
  intro j hj
  rw [FR_put, putF_other]
  · exact hf j hj
  · intro e
    have : ∀ l : List Oper, o ∈ l → memB (dsts l) j = true := by
      intro l
      induction l with
      | nil => simp
      | cons x l ih =>
        intro hm
        rcases List.mem_cons.1 hm with rfl | hm
        · simp only [dsts, e]; exact memB_self _ _
        · simp only [dsts]; split
          · rw [memB]; cases Nat.beq _ j <;> simp [ih hm]
          · exact ih hm
    have := hM j (this ops.toList (by simpa using Array.mem_of_getElem? ho))
    rw [hj] at this; cases this

theorem KDgo_wpC {P : Program} {n : Nat} {ops : Array Oper} {W : List Nat} {hc : Bool} {C : World → Prop} {k : Fr → World → Prop} {d : List Deferred} {M : List Nat} {f0 : Fr}
    (hs : selB ops.toList = true) (hW : okW W ops.toList 0 = true) (hC : hc = false → C = fun _ => True) (hM : ∀ j, memB (dsts ops.toList) j = true → memB M j = true) :
    ∀ (fuel m : Nat) (listed : Array Bool) (a : Act) (w : World), Rl ops listed m → Dc ops listed → a.tmps.size = n → a.defers = d → (∀ j, memB M j = false → FR a j = f0 j) → CN P ops W C listed w →
      KDgo P n ops ops.toList W hc C k fuel m (FR a) w →
      wpC P ops (CN P ops W C) (fun a' w' => a'.tmps.size = n ∧ a'.defers = d ∧ (∀ j, memB M j = false → FR a' j = f0 j) ∧ k (FR a') w') fuel listed a w := by
  intro fuel
  have hsel : ∀ (j : Nat) (o : Oper) cs b, ops[j]? = some o → o.op ≠ .select cs b := fun j o cs b ho => selB_spec hs j o cs b (by simpa using ho)
  have noready : ∀ {m : Nat} {listed : Array Bool}, Rl ops listed m → scan (rdyB m) ops.toList 0 = none → Region.ready .any ops listed = [] := by
    intro m listed hr hn
    rw [List.eq_nil_iff_forall_not_mem]
    intro i hi
    obtain ⟨o, ho, hb⟩ := hr.ready.1 hi
    have := scan_none hn i o (by simpa using ho)
    rw [Nat.zero_add] at this
    rw [hb] at this; cases this
  induction fuel with
  | zero =>
    intro m listed a w hr hd hn hdf hf hCw h
    simp only [KDgo] at h
    cases hsc : scan (rdyB m) ops.toList 0 with
    | none => simp only [hsc] at h; exact ⟨hCw, noready hr hsc, hn, hdf, hf, h⟩
    | some i => simp only [hsc] at h
  | succ fuel ih =>
    intro m listed a w hr hd hn hdf hf hCw h
    simp only [KDgo] at h
    cases hsq : scan (fun o i => rdyB m o i && !isEff P o) ops.toList 0 with
    | some i =>
      simp only [hsq] at h
      obtain ⟨o, ho, _, hb⟩ := scan_some hsq
      rw [Nat.sub_zero] at ho
      simp only [Bool.and_eq_true, Bool.not_eq_true'] at hb
      obtain ⟨hrd, hne⟩ := hb
      simp only [ho] at h
      have ho' : ops[i]? = some o := by simpa using ho
      have hin : i < ops.size := (Array.getElem?_eq_some_iff.1 ho').1
      have hready : i ∈ Region.ready .any ops listed := hr.ready.2 ⟨o, ho', hrd⟩
      cases hfr : freeL ops o i m ops.toList 0 with
      | false => simp only [hfr, cond_false] at h
      | true =>
        simp only [hfr, cond_true] at h
        have hfree : ∀ j oj, ops[j]? = some oj → j ≠ i → listed.getD j true = false → (∀ e ∈ oj.after, Region.binds .any e = true → e.on ≠ i) → o.apart ops oj = true := fun j oj hj hji hun hno => by
          refine freeL_spec hfr j oj (by simpa using hj) (by omega) ?_ hno
          rw [Nat.zero_add, ← hr.2 j]
          have hlt : j < listed.size := by rw [hr.1]; exact (Array.getElem?_eq_some_iff.1 hj).1
          simpa [hlt] using hun
        have hmono := CN.less (W := W) (C := C) ho' hne
        /- who is ready does not wait for i while i is open -/
        have nowait : ∀ listed', Dc ops listed' → listed'.getD i true = false → (∀ j oj, ops[j]? = some oj → listed'.getD j false = true → tb (W.getD j 0) i = false) ∧ ∀ j ∈ Region.ready .any ops listed', tb (W.getD j 0) i = false := by
          intro listed' hd' hui
          have hif : listed'.getD i false = false := by
            rcases Nat.lt_or_ge i listed'.size with h' | h'
            · simpa [h'] using hui
            · simp [Array.getElem?_eq_none h']
          have ha : ∀ j oj, ops[j]? = some oj → listed'.getD j false = true → tb (W.getD j 0) i = false := by
            intro j oj hoj hl
            cases ht : tb (W.getD j 0) i with
            | false => rfl
            | true =>
              have := anc_listed hW hd' (i := i) j oj hoj hl ht
              rw [hif] at this; cases this
          refine ⟨ha, fun j hj => ?_⟩
          obtain ⟨hju, oj, hoj, hall⟩ := mem_ready.1 hj
          cases hl : tb (W.getD j 0) i with
          | false => rfl
          | true =>
            obtain ⟨h1, h2⟩ := okW_spec hW j oj (by simpa using hoj)
            rw [Nat.zero_add] at h1 h2
            rw [h1] at hl
            obtain ⟨e, he, hb, hc'⟩ := ancM_tb _ _ _ hl
            have hle' := hall e (by simpa using he) (by rw [bnds_eq]; exact hb)
            rcases hc' with hc' | hc'
            · rw [hc'] at hle'; rw [hif] at hle'; cases hle'
            · have hlt : e.on < ops.size := by have := h2 e he hb; have := (Array.getElem?_eq_some_iff.1 hoj).1; omega
              have := ha e.on ops[e.on] (by simp [hlt]) hle'
              rw [hc'] at this; cases this
        have next : ∀ v w', CN P ops W C listed w' → KDgo P n ops ops.toList W hc C k fuel (setB m i) (putF n (FR a) o.dst v) w' →
            wpC P ops (CN P ops W C) (fun a' w' => a'.tmps.size = n ∧ a'.defers = d ∧ (∀ j, memB M j = false → FR a' j = f0 j) ∧ k (FR a') w') fuel (listed.setIfInBounds i true) (a.put o.dst v) w' := by
          intro v w' hCw' h'
          exact ih _ _ _ _ (hr.set hin) (hd.set hready) ((put_size a _ _).trans hn) ((put_defers a _ _).trans hdf) (put_rel ho' hM hf v) (hCw'.more i) (by rw [FR_put, hn]; exact h')
        cases hpu : isPu P (FR a) o with
        | true =>
          simp only [hpu, cond_true] at h
          obtain ⟨r, hrr⟩ := isPu_some hpu
          rcases gx_wanted h with ⟨hw, hx⟩ | ⟨hw, hx⟩
          · cases r with
            | none => rw [exO_eq] at hx; simp only [hrr] at hx; exact hx.out.elim
            | some v =>
              rw [exO_eq] at hx
              simp only [hrr] at hx
              have hx := hx.out
              have hrun := pu_run hrr
              rw [ev_FR] at hrun
              exact wpC_first (S := fun _ => True) ho' hne hsel hmono fuel listed a w hfree hd (fun _ _ _ _ _ _ _ _ _ _ _ => trivial) hready trivial hCw (.inl ⟨hw, fun w' _ => hrun w'⟩) (next v w hCw hx)
          · exact wpC_first (S := fun _ => True) ho' hne hsel hmono fuel listed a w hfree hd (fun _ _ _ _ _ _ _ _ _ _ _ => trivial) hready trivial hCw (.inr ⟨hw, rfl⟩) (next undef w hCw hx)
        | false =>
          simp only [hpu, cond_false] at h
          cases hao : aOk P W i m ops.toList 0 with
          | true =>
            simp only [hao, cond_true] at h
            have hk : ∀ listed', Dc ops listed' → (∀ j, listed.getD j false = true → listed'.getD j false = true) → listed'.getD i true = false → ∀ j ∈ Region.ready .any ops listed', ∀ oj, ops[j]? = some oj → isEff P oj = true → ∀ w', CN P ops W C ((listed'.setIfInBounds i true).setIfInBounds j true) w' → w' = w := by
              intro listed' hd' hle hui j hj oj hoj hej
              exfalso
              have hnw := (nowait listed' hd' hui).2 j hj
              obtain ⟨hju, _, _, _⟩ := mem_ready.1 hj
              rcases aOk_spec hao j oj (by simpa using hoj) hej with hl | hl
              · rw [Nat.zero_add, ← hr.2] at hl
                have := hle j hl
                rcases Nat.lt_or_ge j listed'.size with h' | h'
                · simp [h'] at hju this; rw [hju] at this; cases this
                · simp [Array.getElem?_eq_none h'] at this
              · rw [Nat.zero_add, hnw] at hl; cases hl
            rcases gx_wanted h with ⟨hw, hx⟩ | ⟨hw, hx⟩
            · obtain ⟨v, w', hrun, hww, hK⟩ := quiet_run hne hx
              rw [ev_FR, hww] at hrun
              exact wpC_first (S := fun w' => w' = w) ho' hne hsel hmono fuel listed a w hfree hd hk hready rfl hCw (.inl ⟨hw, fun w' hw' => by rw [hw']; exact hrun⟩) (next v w hCw hK)
            · exact wpC_first (S := fun w' => w' = w) ho' hne hsel hmono fuel listed a w hfree hd hk hready rfl hCw (.inr ⟨hw, rfl⟩) (next undef w hCw hx.2)
          | false =>
            simp only [hao, cond_false] at h
            cases hcd : cand P W ops.toList o i with
            | false => rw [hcd] at h; exact h.elim
            | true =>
            rw [hcd] at h
            obtain ⟨v, hv, hK⟩ := h
            have hiun : listed.getD i true = false := (mem_ready.1 hready).1
            have hCn : C w := hCw ⟨i, o, ho', hcd, fun j oj hj _ hl => (nowait listed hd hiun).1 j oj hj hl⟩
            have hk : ∀ listed', Dc ops listed' → (∀ j, listed.getD j false = true → listed'.getD j false = true) → listed'.getD i true = false → ∀ j ∈ Region.ready .any ops listed', ∀ oj, ops[j]? = some oj → isEff P oj = true → ∀ w', CN P ops W C ((listed'.setIfInBounds i true).setIfInBounds j true) w' → C w' := by
              intro listed' hd' hle hui j hj oj hoj hej w' hcw
              obtain ⟨n1, n2⟩ := nowait listed' hd' hui
              refine hcw ⟨i, o, ho', hcd, fun l ol hl hel hll => ?_⟩
              by_cases hjl : j = l
              · subst hjl; exact n2 j hj
              rw [getD_set_ne false hjl] at hll
              by_cases hil : i = l
              · subst hil; rw [ho'] at hl; cases hl; rw [hne] at hel; cases hel
              rw [getD_set_ne false hil] at hll
              exact n1 l ol hl hll
            refine wpC_first (S := C) ho' hne hsel hmono fuel listed a w hfree hd hk hready hCn hCw ?_ (next v w hCw hK)
            cases hw : Region.wanted o (yielded ops a.tmps) with
            | true =>
              refine .inl ⟨hw, fun w' hw' => ?_⟩
              rcases gx_wanted (hv w' hw') with ⟨_, hx⟩ | ⟨hw2, _⟩
              · obtain ⟨u, w2, hrun, rfl, rfl⟩ := quiet_run hne hx
                rw [ev_FR] at hrun; exact hrun
              · rw [hw] at hw2; cases hw2
            | false =>
              refine .inr ⟨hw, ?_⟩
              rcases gx_wanted (hv w hCn) with ⟨hw2, _⟩ | ⟨_, hx⟩
              · rw [hw] at hw2; cases hw2
              · exact hx.1.symm
    | none =>
      simp only [hsq] at h
      cases hsr : scan (rdyB m) ops.toList 0 with
      | none =>
        simp only [hsr] at h
        exact ⟨hCw, fun _ => ⟨hn, hdf, hf, h⟩, fun i hi => by rw [noready hr hsr] at hi; cases hi⟩
      | some i =>
        simp only [hsr] at h
        obtain ⟨o, ho, _, hrd⟩ := scan_some hsr
        rw [Nat.sub_zero] at ho
        simp only [ho] at h
        have ho' : ops[i]? = some o := by simpa using ho
        have hin : i < ops.size := (Array.getElem?_eq_some_iff.1 ho').1
        have hready : i ∈ Region.ready .any ops listed := hr.ready.2 ⟨o, ho', hrd⟩
        have heff : isEff P o = true := by
          have := scan_none hsq i o ho
          rw [Nat.zero_add] at this
          rw [hrd] at this
          simpa using this
        have all : ∀ j oj, ops[j]? = some oj → rdyB m oj j = true → gx P ops (FR a) oj w (fun v w' => CK (hc && stillB P W ops.toList (setB m j) ops.toList 0) C w' (KDgo P n ops ops.toList W hc C k fuel (setB m j) (putF n (FR a) oj.dst v) w')) := by
          intro j oj hoj hrj
          cases hso : scan (fun o j => rdyB m o j && !(Nat.beq j i)) ops.toList 0 with
          | some j' =>
            simp only [hso] at h
            have := allR_spec h j oj (by simpa using hoj) (by rw [Nat.zero_add]; exact hrj)
            rw [Nat.zero_add] at this
            exact this
          | none =>
            simp only [hso] at h
            have hji : j = i := by
              have := scan_none hso j oj (by simpa using hoj)
              rw [Nat.zero_add, hrj] at this
              simp only [Bool.true_and, Bool.not_eq_false'] at this
              exact Nat.eq_of_beq_eq_true this
            subst hji
            rw [ho'] at hoj
            cases hoj
            exact h
        refine ⟨hCw, fun h0 => (by rw [h0] at hready; cases hready), fun j hj => ?_⟩
        obtain ⟨oj, hoj, hrj⟩ := hr.ready.1 hj
        have hx0 := all j oj hoj hrj
        have hjn : j < ops.size := (Array.getElem?_eq_some_iff.1 hoj).1
        have heff : isEff P oj = true := by
          have := scan_none hsq j oj (by simpa using hoj)
          rw [Nat.zero_add] at this
          rw [hrj] at this
          simpa using this
        have next : ∀ v w', CK (hc && stillB P W ops.toList (setB m j) ops.toList 0) C w' (KDgo P n ops ops.toList W hc C k fuel (setB m j) (putF n (FR a) oj.dst v) w') →
            wpC P ops (CN P ops W C) (fun a' w' => a'.tmps.size = n ∧ a'.defers = d ∧ (∀ j, memB M j = false → FR a' j = f0 j) ∧ k (FR a') w') fuel (listed.setIfInBounds j true) (a.put oj.dst v) w' := by
          intro v w' h'
          have h2 : CN P ops W C (listed.setIfInBounds j true) w' ∧ KDgo P n ops ops.toList W hc C k fuel (setB m j) (putF n (FR a) oj.dst v) w' := by
            unfold CK at h'
            cases hcc : hc with
            | true =>
              subst hcc
              rw [Bool.true_and] at h'
              cases hst : stillB P W ops.toList (setB m j) ops.toList 0 with
              | true => rw [hst] at h'; exact ⟨fun _ => h'.1, h'.2⟩
              | false =>
                rw [hst] at h'
                refine ⟨fun hS => ?_, h'⟩
                have := hS.b (hr.set hjn)
                rw [hst] at this; cases this
            | false => subst hcc; rw [Bool.false_and] at h'; exact ⟨fun _ => by rw [hC rfl]; trivial, h'⟩
          exact ih _ _ _ _ (hr.set hjn) (hd.set hj) ((put_size a _ _).trans hn) ((put_defers a _ _).trans hdf) (put_rel hoj hM hf v) h2.1 (by rw [FR_put, hn]; exact h2.2)
        unfold opC
        simp only [hoj]
        rcases gx_wanted hx0 with ⟨hw, hx⟩ | ⟨hw, hx⟩
        · rw [if_pos hw, if_pos heff]
          have hx := exO_run hx
          rw [ev_FR] at hx
          exact SN_mono next hx
        · rw [if_neg (by simp [hw])]
          exact next _ _ hx

theorem KD_sound : DrawSound KD := by
  intro P n id ops a w k d M f0 Q hm hM hn hd hf hk h
  subst hk
  unfold KD at h
  cases h0 : selB ops.toList && okW (mkW ops.toList []) ops.toList 0 with
  | false => rw [h0] at h; exact h.elim
  | true =>
    rw [h0] at h
    simp only [Bool.and_eq_true] at h0
    simp only [cond_true] at h
    have fin : ∀ (C : World → Prop) (hc : Bool), (hc = false → C = fun _ => True) → C w.drew → KDgo P n ops ops.toList (mkW ops.toList []) hc C (Q .normal) ops.toList.length 0 (FR a) w.drew → (Code.region id ops true).wp P (lift n d M f0 Q) a w := by
      intro C hc hC hCw hh
      refine wp_region_any hm (wpC_any (C := CN P ops (mkW ops.toList []) C) (fun a' w' h' => ⟨h'.1, h'.2.1, h'.2.2.1, h'.2.2.2⟩) _ _ _ _ (KDgo_wpC (n := n) (d := d) (M := M) (f0 := f0) h0.1 h0.2 hC hM ops.size 0 _ a w.drew (Rl.none ops) ?_ hn hd hf (fun _ => hCw) (by simpa using hh)))
      intro j o _ hl
      have h1 := (Rl.none ops).2 j
      rw [hl, tb_zero] at h1; cases h1
    cases hnc : needC P (mkW ops.toList []) ops.toList ops.toList 0 with
    | true =>
      rw [hnc] at h
      obtain ⟨C, hCw, hh⟩ := h
      exact fin C true (fun e => by cases e) hCw hh
    | false =>
      rw [hnc] at h
      exact fin _ false (fun _ => rfl) trivial h

end Go.Al
