/- What a restart finds, plainly: who is among the losers. -/
import Derived.Test.YthgdinjgdjiknaaRest2
namespace Go.Proofs.Ythgdinjgdjiknaa
open Go.Al Go.Proofs
set_option linter.unusedVariables false
set_option linter.unusedSimpArgs false
set_option linter.unusedSectionVars false

def openStep (who : Int) (o : Bool) (r : Rc) : Bool :=
  bif decide (r.xid = who) && !decide (who < 1) then
    (bif decide (r.kind = 7) || decide (r.kind = 8) then false else bif decide (r.kind = 1) || decide (r.kind = 2) || decide (r.kind = 6) then true else o)
  else o
def openW (who : Int) (rs : List Rc) : Bool := rs.foldl (openStep who) false

theorem lstep_nodup {M : List (Int × Int)} (h : (M.map (·.1)).Nodup) (r : Rc) : ((lstep M r).map (·.1)).Nodup := by
  unfold lstep
  cases mine r with
  | false => simpa using h
  | true =>
    simp only [Bool.not_true, cond_false]
    cases decide (r.kind = 7) || decide (r.kind = 8) with
    | true => simpa using nodup_delD h _
    | false =>
      simp only [cond_false]
      cases decide (r.kind = 6) with
      | true => simpa using nodup_setD h _ _
      | false => simpa using nodup_setD h _ _
theorem foldl_inv {α β : Type} (P : β → Prop) (f : β → α → β) : ∀ (l : List α) (b : β), P b → (∀ b x, x ∈ l → P b → P (f b x)) → P (l.foldl f b)
  | [], b, h, _ => h
  | x :: l, b, h, hs => foldl_inv P f l (f b x) (hs b x (by simp) h) (fun b y hy => hs b y (List.mem_cons_of_mem _ hy))
theorem lastM_nodup (rs : List Rc) : ((lastM rs).map (·.1)).Nodup := foldl_inv (fun M => (M.map (·.1)).Nodup) lstep rs [] (by simp) (fun M r _ h => lstep_nodup h r)
theorem keysof_lstep (M : List (Int × Int)) (r : Rc) {x : Int} (h : x ∈ (lstep M r).map (·.1)) : x ∈ M.map (·.1) ∨ (x = r.xid ∧ 0 < r.xid) := by
  unfold lstep at h
  cases hm : mine r with
  | false => rw [hm] at h; exact .inl (by simpa using h)
  | true =>
    have hpos : 0 < r.xid := by unfold mine at hm; simp at hm; exact hm.2
    rw [hm] at h
    simp only [Bool.not_true, cond_false] at h
    have hset : ∀ v, x ∈ (setD M r.xid v).map (·.1) → x ∈ M.map (·.1) ∨ (x = r.xid ∧ 0 < r.xid) := by
      intro v hv
      rw [keys_setD] at hv
      split at hv
      · exact .inl hv
      · rcases List.mem_append.1 hv with h | h
        · exact .inl h
        · exact .inr ⟨by simpa using h, hpos⟩
    cases h7 : decide (r.kind = 7) || decide (r.kind = 8) with
    | true =>
      rw [h7, cond_true, keys_delD] at h
      exact .inl (List.mem_of_mem_erase h)
    | false =>
      rw [h7, cond_false] at h
      cases h6 : decide (r.kind = 6) with
      | true => rw [h6, cond_true] at h; exact hset _ h
      | false => rw [h6, cond_false] at h; exact hset _ h
theorem lastM_len (rs : List Rc) : (lastM rs).length ≤ rs.length := by
  have key : ∀ (l : List Rc) (M : List (Int × Int)), (l.foldl lstep M).length ≤ M.length + l.length := by
    intro l
    induction l with
    | nil => intro M; simp
    | cons r l ih =>
      intro M
      have h1 : (lstep M r).length ≤ M.length + 1 := by
        have hs : ∀ v, (setD M r.xid v).length ≤ M.length + 1 := by
          intro v
          have := congrArg List.length (keys_setD M r.xid v)
          rw [List.length_map] at this
          rw [this]
          split
          · simp
          · simp
        have hd : (delD M r.xid).length ≤ M.length + 1 := by
          have := congrArg List.length (keys_delD M r.xid)
          rw [List.length_map] at this
          rw [this]
          have := List.length_erase_le (a := r.xid) (l := M.map (·.1))
          rw [List.length_map] at this; omega
        unfold lstep
        cases mine r with
        | false => simp
        | true =>
          simp only [Bool.not_true, cond_false]
          cases decide (r.kind = 7) || decide (r.kind = 8) with
          | true => simpa using hd
          | false =>
            simp only [cond_false]
            cases decide (r.kind = 6) with
            | true => simpa using hs _
            | false => simpa using hs _
      have := ih (lstep M r)
      simp only [List.foldl_cons, List.length_cons]; omega
  have := key rs []
  unfold lastM
  simpa using this
theorem open_iff (who : Int) (rs : List Rc) : openW who rs = (getD (lastM rs) who).isSome := by
  have key : ∀ (l : List Rc) (M : List (Int × Int)) (o : Bool), (M.map (·.1)).Nodup → o = (getD M who).isSome → (who < 1 → getD M who = none) → l.foldl (openStep who) o = (getD (l.foldl lstep M) who).isSome := by
    intro l
    induction l with
    | nil => intro M o _ h _; exact h
    | cons r l ih =>
      intro M o hn ho hw
      simp only [List.foldl_cons]
      refine ih _ _ (lstep_nodup hn r) ?_ ?_
      · unfold openStep lstep
        by_cases hx : r.xid = who
        · by_cases hw1 : who < 1
          · have hm : mine r = false := by unfold mine; rw [show decide (0 < r.xid) = false by rw [decide_eq_false_iff_not]; omega, Bool.and_false]
            rw [hm, show decide (who < 1) = true by simpa using hw1]
            simp only [Bool.not_true, Bool.and_false, cond_false, Bool.not_false, cond_true]
            exact ho
          · have hp : decide (0 < r.xid) = true := by rw [decide_eq_true_eq]; omega
            have hw1' : decide (who < 1) = false := by simpa using hw1
            have hm : mine r = isM r.kind := by unfold mine; rw [hp, Bool.and_true]
            rw [show decide (r.xid = who) = true by simpa using hx, hw1', hm]
            simp only [Bool.not_false, Bool.and_true, cond_true]
            unfold isM
            cases h7 : decide (r.kind = 7) with
            | true => simp [hx, getD_delD hn]
            | false =>
            cases h8 : decide (r.kind = 8) with
            | true => simp [hx, getD_delD hn]
            | false =>
            cases h6 : decide (r.kind = 6) with
            | true => simp [hx, getD_setD]
            | false =>
            cases h1 : decide (r.kind = 1) with
            | true => simp [hx, getD_setD]
            | false =>
            cases h2 : decide (r.kind = 2) with
            | true => simp [hx, getD_setD]
            | false => simp [ho]
        · rw [show decide (r.xid = who) = false by simpa using hx, Bool.false_and, cond_false, ho]
          have hx' : ¬ who = r.xid := fun e => hx e.symm
          cases mine r with
          | false => simp
          | true =>
            simp only [Bool.not_true, cond_false]
            cases decide (r.kind = 7) || decide (r.kind = 8) with
            | true => simp [getD_delD hn, hx']
            | false =>
              simp only [cond_false]
              cases decide (r.kind = 6) with
              | true => simp [getD_setD, hx']
              | false => simp [getD_setD, hx']
      · intro h1
        rw [getD_none]
        intro hmem
        rcases keysof_lstep M r hmem with h | ⟨h, h'⟩
        · exact getD_none.1 (hw h1) h
        · omega
  exact key rs [] false (by simp) rfl (fun _ => rfl)

theorem sortK_perm {β : Type} (D : List (Int × β)) : (sortK D).Perm (D.map (·.1)) := List.mergeSort_perm _ _
theorem sortK_lt {β : Type} {D : List (Int × β)} (h : (D.map (·.1)).Nodup) : (sortK D).Pairwise (· < ·) := by
  have h1 : (sortK D).Pairwise (fun x y => decide (x ≤ y) = true) := List.pairwise_mergeSort (fun a b c h1 h2 => by simp only [decide_eq_true_eq] at *; omega) (fun a b => by simp only [Bool.or_eq_true, decide_eq_true_eq]; omega) _
  have h2 : (sortK D).Pairwise (· ≠ ·) := ((sortK_perm D).nodup_iff).2 h
  exact (h1.and h2).imp (fun {a b} h => by have := h.1; have := h.2; simp only [decide_eq_true_eq] at *; omega)
theorem sortK_len {β : Type} (D : List (Int × β)) : (sortK D).length = D.length := by rw [(sortK_perm D).length_eq, List.length_map]
theorem sortK_mem {β : Type} (D : List (Int × β)) (x : Int) : x ∈ sortK D ↔ (getD D x).isSome = true := by
  rw [(sortK_perm D).mem_iff, ← Option.not_isNone, Bool.not_eq_true', Option.isNone_eq_false_iff, Option.isSome_iff_ne_none, ne_eq, getD_none, Classical.not_not]
/-- How often. -/
def hits (who : Int) (l : List Int) : Nat := l.countP (fun x => decide (x = who))
theorem hits_sortK {β : Type} {D : List (Int × β)} (h : (D.map (·.1)).Nodup) (who : Int) : hits who (sortK D) = bif (getD D who).isSome then 1 else 0 := by
  unfold hits
  have hn : (sortK D).Nodup := ((sortK_perm D).nodup_iff).2 h
  have e : (sortK D).countP (fun x => decide (x = who)) = (sortK D).count who := by
    rw [List.count]
    congr 1
  rw [e]
  cases hs : (getD D who).isSome with
  | true => rw [cond_true]; have := List.nodup_iff_count.1 hn who; have := List.count_pos_iff.2 ((sortK_mem D who).2 hs); omega
  | false =>
    rw [cond_false]
    exact List.count_eq_zero.2 (fun hm => by rw [sortK_mem, hs] at hm; cases hm)
end Go.Proofs.Ythgdinjgdjiknaa
