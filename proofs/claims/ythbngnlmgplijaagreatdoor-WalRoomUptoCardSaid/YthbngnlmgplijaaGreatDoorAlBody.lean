/- Lists of operations, code, bodies. -/
import Derived.Test.YthbngnlmgplijaaGreatDoorAlK
namespace Go.Al
set_option linter.unusedVariables false
set_option linter.unusedSimpArgs false
set_option linter.unusedSectionVars false

inductive Ex where
  | normal
  | exit (id : Nat)
  | ret

abbrev KQ := Ex → Fr → World → Prop

def isB (b : Bool) : Value → Bool
  | .bool c => bif b then c else !c
  | _ => false
/-- A guarded operation: carried out if c, else its slot holds nothing. -/
def Gd0 (c : Bool) (X : KV → Prop) (w : World) (k : KV) : Prop := bif c then X k else k undef w
structure Gd (c : Bool) (X : KV → Prop) (w : World) (k : KV) : Prop where
  out : Gd0 c X w k
def yl (ops : Array Oper) (f : Fr) (j : Nat) : Value := match (ops.toList[j]?).bind (·.dst) with
  | some d => f d
  | none => undef

def KO (P : Program) (n : Nat) (ops : Array Oper) : List Oper → Fr → World → (Fr → World → Prop) → Prop
  | [], f, w, k => k f w
  | o :: l, f, w, k => match o.guard with
    | none => exO P f o w (fun v w' => KO P n ops l (putF n f o.dst v) w' k)
    | some (j, b) => Gd (isB b (yl ops f j)) (fun k' => exO P f o w k') w (fun v w' => KO P n ops l (putF n f o.dst v) w' k)

def IfB0 (v : Value) (a b : Prop) : Prop := match v with
  | .bool true => a
  | .bool false => b
  | _ => False
structure IfB (v : Value) (a b : Prop) : Prop where
  out : IfB0 v a b
/-- Ways that meet again: B is what is asked where they meet. -/
structure Jn (B : List Value → World → Prop) (A : (List Value → World → Prop) → Prop) : Prop where
  out : A B

def memB : List Nat → Nat → Bool
  | [], _ => false
  | x :: l, j => bif Nat.beq x j then true else memB l j
def dsts : List Oper → List Nat
  | [] => []
  | o :: l => match o.dst with
    | some d => d :: dsts l
    | none => dsts l
def mods : Code → List Nat
  | .region _ ops _ => dsts ops.toList
  | .seq a b => mods a ++ mods b
  | .cond _ a b => mods a ++ mods b
  | .block _ c => mods c
  | .loop c => mods c
  | _ => []
def hasR : Code → Bool
  | .region .. => true
  | .seq a b => bif hasR a then true else hasR b
  | .cond _ a b => bif hasR a then true else hasR b
  | .block _ c => hasR c
  | .loop c => hasR c
  | _ => false
/-- The first region of a piece of code. -/
def keyC : Code → Nat
  | .region id _ _ => id
  | .seq a b => bif hasR a then keyC a else keyC b
  | .cond _ a b => bif hasR a then keyC a else keyC b
  | .block _ c => keyC c
  | .loop c => keyC c
  | _ => 0
def firstId : Code → Nat
  | .region id _ _ => id
  | .seq a _ => firstId a
  | .block _ c => firstId c
  | .loop c => firstId c
  | _ => 0
def hav (M : List Nat) (g f : Fr) : Fr := fun j => bif memB M j then g j else f j
def AllV : List Nat → (Fr → Prop) → Fr → Prop
  | [], p, f => p f
  | s :: L, p, f => ∀ v, AllV L p (upd f s v)

/-- Some values for the slots of a list: the values. -/
def ExV : List Nat → List Value → (Fr → Prop) → Fr → List Value → Prop
  | [], acc, p, f, vs => vs = acc ∧ p f
  | s :: L, acc, p, f, vs => ∃ v, ExV L (acc ++ [v]) p (upd f s v) vs

/-- What a region that draws its order asks (laid by AlDraw). -/
abbrev DrawK := Program → Nat → Array Oper → Fr → World → (Fr → World → Prop) → Prop

def K (D : DrawK) (P : Program) (n : Nat) (lv : Nat → List Nat) (jn : Nat → Option (List Nat)) : Code → KQ → Fr → World → Prop
  | .skip, Q, f, w => Q .normal f w
  | .label _, Q, f, w => Q .normal f w
  | .region _ ops d, Q, f, w => bif d then D P n ops f w (Q .normal) else KO P n ops ops.toList f w (Q .normal)
  | .seq a b, Q, f, w => match jn (keyC b) with
    | none => K D P n lv jn a (fun e f' w' => match e with
      | .normal => K D P n lv jn b Q f' w'
      | .exit i => Q (.exit i) f' w'
      | .ret => Q .ret f' w') f w
    | some L => Jn (fun vs w' => ∀ g, ExV L [] (fun f' => K D P n lv jn b Q f' w') (hav (mods a) g f) vs)
        (fun kk => K D P n lv jn a (fun e f' w' => match e with
          | .normal => kk (L.map f') w'
          | .exit i => Q (.exit i) f' w'
          | .ret => Q .ret f' w') f w)
  | .cond c x y, Q, f, w => IfB (ev f c) (K D P n lv jn x Q f w) (K D P n lv jn y Q f w)
  | .block id c, Q, f, w => K D P n lv jn c (fun e f' w' => match e with
    | .normal => Q .normal f' w'
    | .exit i => bif Nat.beq i id then Q .normal f' w' else Q (.exit i) f' w'
    | .ret => Q .ret f' w') f w
  | .loop c, Q, f, w => ∃ (I : List Value → World → Prop) (μ : List Value → World → Nat), I ((lv (firstId c)).map f) w ∧
      ∀ g w', AllV (lv (firstId c)) (fun f1 => I ((lv (firstId c)).map f1) w' → K D P n lv jn c (fun e f2 w2 => match e with
        | .normal => I ((lv (firstId c)).map f2) w2 ∧ μ ((lv (firstId c)).map f2) w2 < μ ((lv (firstId c)).map f1) w'
        | .exit i => Q (.exit i) f2 w2
        | .ret => Q .ret f2 w2) f1 w') (hav (mods c) g f)
  | .exit id, Q, f, w => Q (.exit id) f w
  | .ret, Q, f, w => Q .ret f w
  | _, _, _, _ => False

/-! ### Soundness -/

def lift (n : Nat) (d : List Deferred) (M : List Nat) (f0 : Fr) (Q : KQ) : Exit → Act → World → Prop := fun e a w =>
  a.tmps.size = n ∧ a.defers = d ∧ (∀ j, memB M j = false → FR a j = f0 j) ∧ (match e with
    | .normal => Q .normal (FR a) w
    | .exit i => Q (.exit i) (FR a) w
    | .ret => Q .ret (FR a) w
    | _ => False)

theorem memB_append (l m : List Nat) (j : Nat) : memB (l ++ m) j = (memB l j || memB m j) := by
  induction l with
  | nil => rfl
  | cons x l ih =>
    simp only [List.cons_append, memB]
    cases Nat.beq x j <;> simp [ih]
theorem memB_self (d : Nat) (l : List Nat) : memB (d :: l) d = true := by simp [memB, Nat.beq_refl]

theorem upd_self (f : Fr) (s : Nat) : upd f s (f s) = f := by
  funext j
  unfold upd
  cases h : Nat.beq j s with
  | false => rfl
  | true => have := Nat.eq_of_beq_eq_true h; subst this; rfl

theorem AllV_self : ∀ (L : List Nat) (p : Fr → Prop) (f : Fr), AllV L p f → p f
  | [], _, _, h => h
  | s :: L, p, f, h => by
    have := AllV_self L p _ (h (f s))
    rwa [upd_self] at this

theorem hav_self {M : List Nat} {g f : Fr} (h : ∀ j, memB M j = false → g j = f j) : hav M g f = g := by
  funext j
  unfold hav
  cases hm : memB M j with
  | false => exact (h j hm).symm
  | true => rfl

theorem ExV_self : ∀ (L : List Nat) (acc : List Value) (p : Fr → Prop) (f f0 : Fr), f = f0 → ExV L acc p f (acc ++ L.map f0) → p f0
  | [], acc, p, f, f0, hf, h => by subst hf; exact h.2
  | s :: L, acc, p, f, f0, hf, h => by
    subst hf
    obtain ⟨v, h⟩ := h
    have key : ∀ (L : List Nat) (acc : List Value) (g : Fr) (vs : List Value), ExV L acc p g vs → ∃ l, vs = acc ++ l := by
      intro L
      induction L with
      | nil => intro acc g vs h; exact ⟨[], by simp [h.1]⟩
      | cons s L ih => intro acc g vs h; obtain ⟨v, h⟩ := h; obtain ⟨l, hl⟩ := ih _ _ _ h; exact ⟨v :: l, by simp [hl]⟩
    obtain ⟨l, hl⟩ := key _ _ _ _ h
    have hv : v = f s := by
      rw [List.map_cons, List.append_assoc] at hl
      have := List.append_cancel_left hl
      simp at this
      exact this.1.symm
    subst hv
    rw [upd_self] at h
    exact ExV_self L (acc ++ [f s]) p f f rfl (by simpa using h)

theorem SN_upon {P : Program} {o : Oper} {a : Act} {next : Act → World → Prop} {Q : Exit → Act → World → Prop} {r : Result Next} {k : KV}
    (hk : ∀ v w, k v w → next (a.put o.dst v) w) (h : SN P k r) : o.upon P a next Q r := by
  cases r with
  | halt x w => exact h.elim
  | ok x w =>
    cases x <;> simp only [SN] at h <;> simp only [Oper.upon]
    · exact hk _ _ h
    · exact hk _ _ h
    · have h := h.out
      unfold Cl0 at h
      simp only [Array.toArray_toList] at h
      refine h.mono fun e w' he => ?_
      cases e <;> first | exact hk _ _ he | exact he.elim

theorem yielded_isB (ops : Array Oper) (a : Act) (j : Nat) (b : Bool) : (yielded ops a.tmps j == some b) = isB b (yl ops (FR a) j) := by
  unfold yielded yl FR
  simp only [Array.getElem?_toList]
  cases hd : (ops[j]?).bind (·.dst) with
  | none => cases b <;> rfl
  | some d =>
    simp only [Option.bind_some, Array.getD_eq_getD_getElem?]
    cases ht : a.tmps[d]? with
    | none => cases b <;> rfl
    | some v =>
      simp only [Option.getD_some]
      cases v <;> cases b <;> first | rfl | (rename_i c; cases c <;> rfl)

theorem KO_wp {P : Program} {n : Nat} {ops : Array Oper} {d : List Deferred} {M : List Nat} {f0 : Fr} {Q : KQ} : ∀ (l : List Oper) (a : Act) (w : World),
    (∀ j, memB (dsts l) j = true → memB M j = true) → a.tmps.size = n → a.defers = d → (∀ j, memB M j = false → FR a j = f0 j) →
    KO P n ops l (FR a) w (Q .normal) → wpList P ops (lift n d M f0 Q) l a w
  | [], a, w, _, hn, hd, hf, h => ⟨hn, hd, hf, h⟩
  | o :: l, a, w, hM, hn, hd, hf, h => by
    have step : ∀ v w', KO P n ops l (putF n (FR a) o.dst v) w' (Q .normal) → wpList P ops (lift n d M f0 Q) l (a.put o.dst v) w' := by
      intro v w' h'
      refine KO_wp l _ _ (fun j hj => hM j ?_) ((put_size a _ _).trans hn) ((put_defers a _ _).trans hd) (fun j hj => ?_) (by rw [FR_put, hn]; exact h')
      · simp only [dsts]; split
        · rw [memB]; cases Nat.beq _ j <;> simp [hj]
        · exact hj
      · rw [FR_put, putF_other]
        · exact hf j hj
        · intro e
          have := hM j (by simp only [dsts, e]; exact memB_self _ _)
          rw [hj] at this; cases this
    simp only [wpList]
    simp only [KO] at h
    cases hg : o.guard with
    | none =>
      simp only [hg] at h
      rw [if_pos (by simp [Region.wanted, hg])]
      refine .inl ?_
      have hr := exO_run h
      rw [ev_FR] at hr
      exact SN_upon step hr
    | some g =>
      obtain ⟨j, b⟩ := g
      simp only [hg] at h
      have hw : Region.wanted o (yielded ops a.tmps) = isB b (yl ops (FR a) j) := by simp only [Region.wanted, hg]; exact yielded_isB ops a j b
      rw [hw]
      have h := h.out
      unfold Gd0 at h
      cases hc : isB b (yl ops (FR a) j) with
      | true =>
        simp only [hc, cond_true] at h
        simp only [if_true]
        refine .inl ?_
        have hr := exO_run h
        rw [ev_FR] at hr
        exact SN_upon step hr
      | false =>
        simp only [hc, cond_false] at h
        simp only [Bool.false_eq_true, if_false]
        exact step _ _ h

/-- What is asked of the rule for regions that draw their order. -/
def DrawSound (D : DrawK) : Prop := ∀ (P : Program) (n id : Nat) (ops : Array Oper) (a : Act) (w : World) (k : Fr → World → Prop) (d : List Deferred) (M : List Nat) (f0 : Fr) (Q : KQ),
  P.follows .mixedOrders = true → (∀ j, memB (dsts ops.toList) j = true → memB M j = true) → a.tmps.size = n → a.defers = d → (∀ j, memB M j = false → FR a j = f0 j) → k = Q .normal →
  D P n ops (FR a) w k → (Code.region id ops true).wp P (lift n d M f0 Q) a w

theorem K_wp {D : DrawK} (hD : DrawSound D) {P : Program} (hm : P.follows .mixedOrders = true) {n : Nat} {lv : Nat → List Nat} {jn : Nat → Option (List Nat)} : ∀ (c : Code) (d : List Deferred) (M : List Nat) (f0 : Fr) (Q : KQ) (a : Act) (w : World),
    (∀ j, memB (mods c) j = true → memB M j = true) → a.tmps.size = n → a.defers = d → (∀ j, memB M j = false → FR a j = f0 j) →
    K D P n lv jn c Q (FR a) w → c.wp P (lift n d M f0 Q) a w := by
  intro c
  induction c with
  | skip => intro d M f0 Q a w _ hn hd hf h; exact wp_skip ⟨hn, hd, hf, h⟩
  | label l => intro d M f0 Q a w _ hn hd hf h; exact wp_label ⟨hn, hd, hf, h⟩
  | exit id => intro d M f0 Q a w _ hn hd hf h; exact wp_exit ⟨hn, hd, hf, h⟩
  | ret => intro d M f0 Q a w _ hn hd hf h; exact wp_ret ⟨hn, hd, hf, h⟩
  | region id ops dr =>
    intro d M f0 Q a w hM hn hd hf h
    simp only [mods] at hM
    cases dr with
    | true => exact hD P n id ops a w _ d M f0 Q hm hM hn hd hf rfl h
    | false =>
      exact wp_region_list (KO_wp _ _ _ hM hn hd hf h)
  | seq x y ihx ihy =>
    intro d M f0 Q a w hM hn hd hf h
    simp only [mods, memB_append, Bool.or_eq_true] at hM
    simp only [K] at h
    cases hj : jn (keyC y) with
    | none =>
      simp only [hj] at h
      refine wp_seq (wp_mono (ihx d M f0 _ a w (fun j hj => hM j (.inl hj)) hn hd hf h) ?_)
      intro e a' w' ⟨h1, h2, h3, h4⟩
      cases e <;> simp only at h4 <;> simp only [Exit.then]
      · exact ihy d M f0 Q a' w' (fun j hj => hM j (.inr hj)) h1 h2 h3 h4
      · exact ⟨h1, h2, h3, h4⟩
      · exact ⟨h1, h2, h3, h4⟩
    | some L =>
      simp only [hj] at h
      have h := h.out
      refine wp_seq (wp_mono (ihx d (mods x) (FR a) _ a w (fun j hj => hj) hn hd (fun _ _ => rfl) h) ?_)
      intro e a' w' ⟨h1, h2, h3, h4⟩
      have h5 : ∀ j, memB M j = false → FR a' j = f0 j := fun j hj => by
        rw [h3 j, hf j hj]
        cases hc : memB (mods x) j with
        | false => rfl
        | true => rw [hM j (.inl hc)] at hj; cases hj
      cases e <;> simp only at h4 <;> simp only [Exit.then]
      · have h6 := h4 (FR a')
        rw [hav_self h3] at h6
        exact ihy d M f0 Q a' w' (fun j hj => hM j (.inr hj)) h1 h2 h5 (ExV_self L [] _ _ _ rfl (by simpa using h6))
      · exact ⟨h1, h2, h5, h4⟩
      · exact ⟨h1, h2, h5, h4⟩
  | cond c x y ihx ihy =>
    intro d M f0 Q a w hM hn hd hf h
    simp only [mods, memB_append, Bool.or_eq_true] at hM
    simp only [K] at h
    have hv : ev (FR a) c = a.eval c := by rw [ev_FR]
    rw [hv] at h
    have h := h.out
    cases hc : a.eval c <;> simp only [hc, IfB0] at h
    rename_i b
    cases b
    · exact wp_cond_false hc (ihy d M f0 Q a w (fun j hj => hM j (.inr hj)) hn hd hf h)
    · exact wp_cond_true hc (ihx d M f0 Q a w (fun j hj => hM j (.inl hj)) hn hd hf h)
  | block id c ih =>
    intro d M f0 Q a w hM hn hd hf h
    refine wp_block (wp_mono (ih d M f0 _ a w hM hn hd hf h) ?_)
    intro e a' w' ⟨h1, h2, h3, h4⟩
    cases e <;> simp only at h4 <;> simp only [Exit.inBlock]
    · exact ⟨h1, h2, h3, h4⟩
    · rename_i i
      by_cases hi : i = id
      · subst hi; rw [if_pos rfl]; simp only [Nat.beq_refl, cond_true] at h4; exact ⟨h1, h2, h3, h4⟩
      · rw [if_neg hi]
        have : Nat.beq i id = false := by cases hb : Nat.beq i id with | false => rfl | true => exact absurd (Nat.eq_of_beq_eq_true hb) hi
        simp only [this, cond_false] at h4
        exact ⟨h1, h2, h3, h4⟩
    · exact ⟨h1, h2, h3, h4⟩
  | loop c ih =>
    intro d M f0 Q a w hM hn hd hf h
    obtain ⟨I, μ, h0, hstep⟩ := h
    refine wp_loop (fun a' w' => a'.tmps.size = n ∧ a'.defers = d ∧ (∀ j, memB (mods c) j = false → FR a' j = FR a j) ∧ I ((lv (firstId c)).map (FR a')) w')
      (fun a' w' => μ ((lv (firstId c)).map (FR a')) w') ⟨hn, hd, fun _ _ => rfl, h0⟩ ?_
    intro a' w' ⟨g1, g2, g3, g4⟩
    have hs := hstep (FR a') w'
    rw [hav_self g3] at hs
    have hs := AllV_self _ _ _ hs g4
    refine wp_mono (ih d (mods c) (FR a) _ a' w' (fun _ hj => hj) g1 g2 g3 hs) ?_
    intro e a2 w2 ⟨h1, h2, h3, h4⟩
    have h5 : ∀ j, memB M j = false → FR a2 j = f0 j := fun j hj => by
      rw [h3 j, hf j hj]
      cases hc : memB (mods c) j with
      | false => rfl
      | true => rw [hM j hc] at hj; cases hj
    cases e <;> simp only at h4 <;> simp only [Exit.then]
    · exact ⟨⟨h1, h2, h3, h4.1⟩, h4.2⟩
    · exact ⟨h1, h2, h5, h4⟩
    · exact ⟨h1, h2, h5, h4⟩
  | rangeFunc => intro d M f0 Q a w _ _ _ _ h; exact h.elim
  | scope => intro d M f0 Q a w _ _ _ _ h; exact h.elim
  | goto => intro d M f0 Q a w _ _ _ _ h; exact h.elim
  | refuse => intro d M f0 Q a w _ _ _ _ h; exact h.elim

/-! ### Bodies -/

def argF : List Value → Fr
  | [], _ => undef
  | v :: _, 0 => v
  | _ :: l, j + 1 => argF l j

def resV (P : Program) (f : Fr) (w : World) : ResultVar → Option Value
  | .tmp t => some (f t)
  | .cell a t => match f a with
    | .pointer (some b) => (match aggB P t with
      | some false => w.cell? b
      | some true => (match sizeB P t with
        | some n => (cellsAt w b 0 n).map fun l => .agg l.toArray
        | none => none)
      | none => none)
    | _ => none
def resL (P : Program) (f : Fr) (w : World) : List ResultVar → Option (List Value)
  | [] => some []
  | r :: l => match resV P f w r with
    | some v => (match resL P f w l with
      | some vs => some (v :: vs)
      | none => none)
    | none => none
def RetV : List Value → Value
  | [v] => v
  | l => .tuple l.toArray
def RetO (r : Option (List Value)) (w : World) (k : KV) : Prop := match r with
  | some l => k (RetV l) w
  | none => False
def retQ (P : Program) (fn : Func) (k : KV) : KQ
  | .normal, f, w => RetO (resL P f w fn.results.toList) w k
  | .ret, f, w => RetO (resL P f w fn.results.toList) w k
  | .exit _, _, _ => False

theorem argF_get : ∀ (l : List Value) (j : Nat), argF l j = (l[j]?).getD undef
  | [], j => by simp [argF]
  | v :: l, 0 => by simp [argF]
  | v :: l, j + 1 => by simp [argF, argF_get l j]

def resS (tmps : Array Value) : ResultVar → Sem Value
  | .tmp t => pure (tmps.getD t undef)
  | .cell c t => do loadVar t (← asAddr (tmps.getD c undef))

theorem resV_run {P : Program} {a : Act} {w : World} {r : ResultVar} {v : Value} (h : resV P (FR a) w r = some v) : (resS a.tmps r).run P w = .ok v w := by
  cases r with
  | tmp t => simp only [resV, Option.some.injEq] at h; subst h; rfl
  | cell c t =>
    simp only [resV, FR] at h
    simp only [resS, Sem.run_bind]
    cases hx : a.tmps.getD c undef <;> simp only [hx, reduceCtorEq] at h
    rename_i ad; cases ad <;> simp only [reduceCtorEq] at h
    rename_i b
    cases ha : aggB P t with
    | none => simp [ha] at h
    | some g =>
      cases g with
      | false => simp only [ha] at h; simp [asAddr, loadVar, run_isAgg ha, h]
      | true =>
        simp only [ha] at h
        cases hz : sizeB P t with
        | none => simp [hz] at h
        | some n =>
          simp only [hz, Option.map_eq_some_iff] at h
          obtain ⟨l, hl, rfl⟩ := h
          simp [asAddr, loadVar, run_isAgg ha, run_sizeOf hz, loadCells, loadCellsFrom_run _ _ _ _ hl]

theorem results_run {P : Program} {fn : Func} {a : Act} {w : World} {l : List Value} (h : resL P (FR a) w fn.results.toList = some l) :
    (results fn a.tmps).run P w = .ok (RetV l) w := by
  have key : ∀ (rs : List ResultVar) (l : List Value), resL P (FR a) w rs = some l → (rs.mapM (resS a.tmps)).run P w = .ok l w := by
    intro rs
    induction rs with
    | nil => intro l h; simp [resL] at h; subst h; simp
    | cons r rs ih =>
      intro l h
      simp only [resL] at h
      cases hv : resV P (FR a) w r with
      | none => simp [hv] at h
      | some v =>
        cases hs : resL P (FR a) w rs with
        | none => simp [hv, hs] at h
        | some vs =>
          simp only [hv, hs, Option.some.injEq] at h
          subst h
          rw [List.mapM_cons]
          simp only [Sem.run_bind]
          rw [resV_run hv]
          simp only [Result.andThen_ok, ih _ hs, Sem.run_pure]
  have e : results fn a.tmps = (do let vs ← fn.results.mapM (resS a.tmps); pure (if h : vs.size = 1 then vs[0] else .tuple vs)) := by
    unfold results
    congr 1
  rw [e, Array.mapM_eq_mapM_toList]
  simp only [Sem.run_bind, Sem.run_map, key _ _ h, Result.andThen_ok, Sem.run_pure, Result.ok.injEq, and_true]
  match l with
  | [] => rfl
  | [v] => simp [RetV]
  | v :: u :: l => simp [RetV]

/-- The rule: a call of a function, by its body's meaning. -/
theorem Cl_of_K {D : DrawK} (hD : DrawSound D) {P : Program} (hm : P.follows .mixedOrders = true) {g : FuncId} {fn : Func} {c : Code} {lv : Nat → List Nat} {jn : Nat → Option (List Nat)} {args : List Value} {w : World} {k : KV}
    (hf : P.funcs[g]? = some fn) (hb : fn.body = some c) (hn : Nat.ble args.length fn.ntmps = true)
    (h : K D P fn.ntmps lv jn c (retQ P fn k) (argF args) w) : Cl P g args w k := by
  have hn' : args.length ≤ fn.ntmps := Nat.le_of_ble_eq_true hn
  refine ⟨?_⟩
  unfold Cl0
  refine calls_of_wp hf hb ?_
  have hs : (args.toArray ++ Array.replicate (fn.ntmps - args.toArray.size) undef).size = fn.ntmps := by simp; omega
  have hF : FR ⟨args.toArray ++ Array.replicate (fn.ntmps - args.toArray.size) undef, []⟩ = argF args := by
    funext j
    rw [argF_get]
    simp only [FR, Array.getD_eq_getD_getElem?, Array.getElem?_append, List.size_toArray, List.getElem?_toArray]
    split
    · rfl
    · rename_i hj
      rw [List.getElem?_eq_none (by omega)]
      simp only [Array.getElem?_replicate]
      split <;> rfl
  refine wp_mono (K_wp hD hm c [] (mods c) (argF args) (retQ P fn k) ⟨_, []⟩ w (fun _ hj => hj) hs rfl (fun j _ => by rw [hF]) (by rw [hF]; exact h)) ?_
  intro e a' w' ⟨_, h2, _, h4⟩
  have fin : RetO (resL P (FR a') w' fn.results.toList) w' k → a'.defers = [] ∧ ∃ v, (results fn a'.tmps).run P w' = .ok v w' ∧ RetK k (.returned v) w' := by
    intro hr
    unfold RetO at hr
    cases hl : resL P (FR a') w' fn.results.toList with
    | none => simp [hl] at hr
    | some l => simp only [hl] at hr; exact ⟨h2, _, results_run hl, hr⟩
  cases e <;> simp only [retQ] at h4 <;> first | exact fin h4 | exact h4.elim

end Go.Al
