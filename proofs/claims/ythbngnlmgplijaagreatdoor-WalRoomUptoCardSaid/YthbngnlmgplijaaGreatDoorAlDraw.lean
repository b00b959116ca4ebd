/- Regions that draw their order: one walk serves every order. -/
import Derived.Test.YthbngnlmgplijaaGreatDoorAlBody
namespace Go.Al
set_option linter.unusedVariables false
set_option linter.unusedSimpArgs false
set_option linter.unusedSectionVars false

/-- Does the operation act (or is it not known to leave the world alone)? -/
def isEff (P : Program) (o : Oper) : Bool := match o.op with
  | .move _ | .assign _ | .pick .. | .extract .. | .nilCheck _ | .fieldAddr .. | .field .. | .indexAddr .. | .index .. | .unOp .. | .binOp .. | .slice .. | .makeFunc .. | .load .. | .lookup .. | .build .. | .makeInterface .. => false
  | .convert _ dst _ => (match P.underlying dst with
    | some (.slice _) => true
    | _ => false)
  | .call c => (match c.callee with
    | .builtin .len | .builtin .cap | .builtin .min | .builtin .max => false
    | _ => true)
  | _ => true

def opC (P : Program) (ops : Array Oper) (j : Nat) (K : Act → World → Prop) (a : Act) (w : World) : Prop := match ops[j]? with
  | none => K a w
  | some o => if Region.wanted o (yielded ops a.tmps) then
      (if isEff P o = true then SN P (fun v w' => K (a.put o.dst v) w') ((execOp a.eval o).run P w)
       else ∃ v, (execOp a.eval o).run P w = .ok (.value v) w ∧ K (a.put o.dst v) w)
    else K (a.put o.dst undef) w

def wpC (P : Program) (ops : Array Oper) (C : Array Bool → World → Prop) (Q : Act → World → Prop) : Nat → Array Bool → Act → World → Prop
  | 0, listed, a, w => C listed w ∧ Region.ready .any ops listed = [] ∧ Q a w
  | fuel + 1, listed, a, w => C listed w ∧ (Region.ready .any ops listed = [] → Q a w) ∧
    ∀ i ∈ Region.ready .any ops listed, opC P ops i (wpC P ops C Q fuel (listed.setIfInBounds i true)) a w

theorem SN_mono {P : Program} {k k' : KV} {r : Result Next} (hk : ∀ v w, k v w → k' v w) (h : SN P k r) : SN P k' r := by
  cases r with
  | halt x w => exact h
  | ok x w =>
    cases x <;> simp only [SN] at h ⊢
    · exact hk _ _ h
    · exact hk _ _ h
    · exact h.mono hk

theorem opC_mono {P : Program} {ops : Array Oper} {j : Nat} {K K' : Act → World → Prop} {a : Act} {w : World} (hk : ∀ a w, K a w → K' a w) (h : opC P ops j K a w) : opC P ops j K' a w := by
  unfold opC at *
  split
  · rename_i ho; simp only [ho] at h; exact hk _ _ h
  · rename_i o ho
    simp only [ho] at h
    split
    · rename_i hw
      simp only [hw, if_true] at h
      split
      · rename_i he; simp only [he, if_true] at h; exact SN_mono (fun v w => hk _ _) h
      · rename_i he
        rw [if_neg he] at h
        obtain ⟨v, hv, hK⟩ := h; exact ⟨v, hv, hk _ _ hK⟩
    · rename_i hw; rw [if_neg hw] at h; exact hk _ _ h

theorem wpC_any {P : Program} {ops : Array Oper} {C : Array Bool → World → Prop} {Q : Act → World → Prop} {Q' : Exit → Act → World → Prop} (hQ : ∀ a w, Q a w → Q' .normal a w) :
    ∀ (fuel : Nat) (listed : Array Bool) (a : Act) (w : World), wpC P ops C Q fuel listed a w → wpAny P .any ops Q' fuel listed a w
  | 0, _, _, _, h => ⟨h.2.1, hQ _ _ h.2.2⟩
  | fuel + 1, listed, a, w, h => by
    refine ⟨fun h0 => hQ _ _ (h.2.1 h0), fun i hi => ?_⟩
    have hc := opC_mono (K' := wpAny P .any ops Q' fuel (listed.setIfInBounds i true)) (fun a' w' hh => wpC_any hQ fuel _ a' w' hh) (h.2.2 i hi)
    unfold opC at hc
    unfold wpOp
    split
    · rename_i ho; simp only [ho] at hc; exact hc
    · rename_i o ho
      simp only [ho] at hc
      split
      · rename_i hw
        rw [if_pos hw] at hc
        refine .inl ?_
        unfold Oper.wp
        split at hc
        · exact SN_upon (fun _ _ hh => hh) hc
        · obtain ⟨v, hv, hK⟩ := hc; rw [hv]; exact hK
      · rename_i hw; rw [if_neg hw] at hc; exact hc

/-- In every world of S the operation yields v and leaves the world. -/
def YieldsS (P : Program) (ops : Array Oper) (S : World → Prop) (o : Oper) (v : Value) (a : Act) : Prop :=
  (Region.wanted o (yielded ops a.tmps) = true ∧ ∀ w, S w → (execOp a.eval o).run P w = .ok (.value v) w) ∨ (Region.wanted o (yielded ops a.tmps) = false ∧ v = undef)

theorem YieldsS.op {P : Program} {ops : Array Oper} {S : World → Prop} {i : Nat} {o : Oper} {v : Value} {a : Act} {w : World} {K : Act → World → Prop} (hi : ops[i]? = some o) (he : isEff P o = false)
    (hS : S w) (hy : YieldsS P ops S o v a) (h : K (a.put o.dst v) w) : opC P ops i K a w := by
  unfold opC
  simp only [hi]
  rcases hy with ⟨hw, hv⟩ | ⟨hw, rfl⟩
  · rw [if_pos hw, if_neg (by simp [he])]; exact ⟨v, hv w hS, h⟩
  · rw [if_neg (by simp [hw])]; exact h

theorem opC_put {P : Program} {ops : Array Oper} {S : World → Prop} {j : Nat} {oi oj : Oper} {v : Value} {a : Act} {w : World} {K : Act → World → Prop} (hj : ops[j]? = some oj) (hap : oi.apart ops oj = true)
    (hsi : ∀ cs b, oi.op ≠ .select cs b) (hsj : ∀ cs b, oj.op ≠ .select cs b) (hy : YieldsS P ops S oi v a) (h : opC P ops j K (a.put oi.dst v) w) :
    opC P ops j (fun a' w' => YieldsS P ops S oi v a' ∧ K (a'.put oi.dst v) w') a w := by
  obtain ⟨h1, h2, h3⟩ := Oper.apart_spec hap
  have keep : ∀ u, YieldsS P ops S oi v (a.put oj.dst u) := fun u => by
    unfold YieldsS at *
    rw [execOp_put oi hsi a oj.dst u h3, wanted_put oi a oj.dst u h3]
    exact hy
  unfold opC at *
  simp only [hj] at *
  rw [wanted_put oj a oi.dst v h1, execOp_put oj hsj a oi.dst v h1] at h
  split
  · rename_i hw
    rw [if_pos hw] at h
    split
    · rename_i he
      rw [if_pos he] at h
      exact SN_mono (fun u w' hh => ⟨keep u, by rw [← Act.put_comm a v u h2]; exact hh⟩) h
    · rename_i he
      rw [if_neg he] at h
      obtain ⟨u, hu, hK⟩ := h
      exact ⟨u, hu, keep u, by rw [← Act.put_comm a v u h2]; exact hK⟩
  · rename_i hw
    rw [if_neg hw] at h
    exact ⟨keep undef, by rw [← Act.put_comm a v undef h2]; exact h⟩

/-- Whatever is listed, its predecessors are. -/
def Dc (ops : Array Oper) (listed : Array Bool) : Prop := ∀ j o, ops[j]? = some o → listed.getD j false = true → ∀ e ∈ o.after, Region.binds .any e = true → listed.getD e.on false = true

theorem Dc.set {ops : Array Oper} {listed : Array Bool} (h : Dc ops listed) {j : Nat} (hj : j ∈ Region.ready .any ops listed) : Dc ops (listed.setIfInBounds j true) := by
  intro i o ho hl e he hb
  refine getD_set_true ?_
  obtain ⟨_, oj, hoj, hall⟩ := mem_ready.1 hj
  by_cases hij : j = i
  · subst hij; rw [hoj] at ho; cases ho; exact hall e he hb
  · exact h i o ho (by rwa [getD_set_ne false hij] at hl) e he hb

theorem wpC_first {P : Program} {ops : Array Oper} {C : Array Bool → World → Prop} {S : World → Prop} {Q : Act → World → Prop} {i : Nat} {oi : Oper} {v : Value} (hi : ops[i]? = some oi) (hei : isEff P oi = false)
    (hsel : ∀ (j : Nat) (o : Oper) cs b, ops[j]? = some o → o.op ≠ .select cs b) (hmono : ∀ l w, C (l.setIfInBounds i true) w → C l w) :
    ∀ (fuel : Nat) (listed : Array Bool) (a : Act) (w : World),
      (∀ j oj, ops[j]? = some oj → j ≠ i → listed.getD j true = false → (∀ e ∈ oj.after, Region.binds .any e = true → e.on ≠ i) → oi.apart ops oj = true) →
      Dc ops listed →
      (∀ listed', Dc ops listed' → (∀ j, listed.getD j false = true → listed'.getD j false = true) → listed'.getD i true = false → ∀ j ∈ Region.ready .any ops listed', ∀ oj, ops[j]? = some oj → isEff P oj = true → ∀ w', C ((listed'.setIfInBounds i true).setIfInBounds j true) w' → S w') →
      i ∈ Region.ready .any ops listed → S w → C listed w → YieldsS P ops S oi v a →
      wpC P ops C Q fuel (listed.setIfInBounds i true) (a.put oi.dst v) w → wpC P ops C Q (fuel + 1) listed a w := by
  intro fuel
  induction fuel with
  | zero =>
    intro listed a w _ _ _ hr hS hC hy H
    refine ⟨hC, fun h => (by rw [h] at hr; cases hr), fun j hj => ?_⟩
    by_cases hji : j = i
    · subst hji; exact hy.op hi hei hS H
    · have := ready_mono hj hji
      rw [H.2.1] at this
      cases this
  | succ fuel ih =>
    intro listed a w hfree hdc hk hr hS hC hy H
    refine ⟨hC, fun h => (by rw [h] at hr; cases hr), fun j hj => ?_⟩
    by_cases hji : j = i
    · subst hji; exact hy.op hi hei hS H
    · have h1 := H.2.2 j (ready_mono hj hji)
      obtain ⟨hjun, oj, hoj, hall⟩ := mem_ready.1 hj
      have hiun := (mem_ready.1 hr).1
      have hnot : ∀ e ∈ oj.after, Region.binds .any e = true → e.on ≠ i := fun e he hb heq => by
        have h1 := hall e he hb
        rw [heq] at h1
        rcases Nat.lt_or_ge i listed.size with h' | h'
        · simp [h'] at hiun h1; rw [hiun] at h1; cases h1
        · simp [Array.getElem?_eq_none h'] at h1
      have h2 := opC_put hoj (hfree j oj hoj hji hjun hnot) (fun cs b => hsel i oi cs b hi) (fun cs b => hsel j oj cs b hoj) hy h1
      have hfree' : ∀ k ok, ops[k]? = some ok → k ≠ i → (listed.setIfInBounds j true).getD k true = false →
          (∀ e ∈ ok.after, Region.binds .any e = true → e.on ≠ i) → oi.apart ops ok = true := fun k ok hk hki hun hno => by
        refine hfree k ok hk hki ?_ hno
        by_cases hjk : j = k
        · subst hjk; exact hjun
        · rw [getD_set_ne true hjk] at hun; exact hun
      have hdc' := hdc.set hj
      have hk' : ∀ listed', Dc ops listed' → (∀ l, (listed.setIfInBounds j true).getD l false = true → listed'.getD l false = true) → listed'.getD i true = false → ∀ l ∈ Region.ready .any ops listed', ∀ ol, ops[l]? = some ol → isEff P ol = true → ∀ w', C ((listed'.setIfInBounds i true).setIfInBounds l true) w' → S w' :=
        fun listed' d hle hu => hk listed' d (fun l hl => hle l (getD_set_true hl)) hu
      have fin : ∀ a' w', S w' → (YieldsS P ops S oi v a' ∧ wpC P ops C Q fuel ((listed.setIfInBounds i true).setIfInBounds j true) (a'.put oi.dst v) w') →
          wpC P ops C Q (fuel + 1) (listed.setIfInBounds j true) a' w' := fun a' w' hS' h3 => by
        have hC' : C (listed.setIfInBounds j true) w' := by
          refine hmono _ _ ?_
          rw [Array.setIfInBounds_comm _ _ hji]
          cases fuel <;> exact h3.2.1
        refine ih (listed.setIfInBounds j true) a' w' hfree' hdc' hk' (ready_mono hr (Ne.symm hji)) hS' hC' h3.1 ?_
        rw [Array.setIfInBounds_comm _ _ hji]
        exact h3.2
      unfold opC at h2 ⊢
      simp only [hoj] at h2 ⊢
      split
      · rename_i hw
        rw [if_pos hw] at h2
        split
        · rename_i he
          rw [if_pos he] at h2
          refine SN_mono (fun u w' hh => fin _ w' ?_ hh) h2
          exact hk listed hdc (fun _ hl => hl) hiun j hj oj hoj he w' (by cases fuel <;> exact hh.2.1)
        · rename_i he
          rw [if_neg he] at h2
          obtain ⟨u, hu, hh⟩ := h2
          exact ⟨u, hu, fin _ w hS hh⟩
      · rename_i hw
        rw [if_neg hw] at h2
        exact fin _ w hS h2

end Go.Al
