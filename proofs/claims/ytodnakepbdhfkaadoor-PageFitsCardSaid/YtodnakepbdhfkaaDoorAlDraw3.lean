/- Regions that draw their order, with a common ground that may be chosen again behind each act. -/
import Derived.Test.YtodnakepbdhfkaaDoorAlDraw2
namespace Go.Al
set_option linter.unusedVariables false
set_option linter.unusedSimpArgs false
set_option linter.unusedSectionVars false

def CK3 (b : Bool) (C : World → Prop) (w : World) (p : (World → Prop) → Prop) : Prop := bif b then ∃ C' : World → Prop, (∀ w, C' w → C w) ∧ C' w ∧ p C' else p C
theorem wpC_monoC {P : Program} {ops : Array Oper} {C C' : Array Bool → World → Prop} {Q : Act → World → Prop} (hC : ∀ l w, C' l w → C l w) : ∀ (fuel : Nat) (listed : Array Bool) (a : Act) (w : World), wpC P ops C' Q fuel listed a w → wpC P ops C Q fuel listed a w
  | 0, _, _, _, h => ⟨hC _ _ h.1, h.2.1, h.2.2⟩
  | fuel + 1, listed, a, w, h => ⟨hC _ _ h.1, h.2.1, fun i hi => opC_mono (fun a' w' hh => wpC_monoC hC fuel _ a' w' hh) (h.2.2 i hi)⟩

def KDgo3 (P : Program) (n : Nat) (ops : Array Oper) (L : List Oper) (W : List Nat) (hc : Bool) (k : Fr → World → Prop) : Nat → Nat → (World → Prop) → Fr → World → Prop
  | 0, m, C, f, w => match scan (rdyB m) L 0 with
    | none => k f w
    | some _ => False
  | fuel + 1, m, C, f, w => match scan (fun o i => rdyB m o i && !isEff P o) L 0 with
    | some i => (match L[i]? with
      | some o => bif freeL ops o i m L 0 then
          (bif isPu P f o then gx P ops f o w (fun v w' => KDgo3 P n ops L W hc k fuel (setB m i) C (putF n f o.dst v) w')
           else bif aOk P W i m L 0 then gx P ops f o w (fun v w' => w' = w ∧ KDgo3 P n ops L W hc k fuel (setB m i) C (putF n f o.dst v) w)
           else bif cand P W L o i then ∃ v, (∀ w', C w' → gx P ops f o w' (fun u w2 => u = v ∧ w2 = w')) ∧ KDgo3 P n ops L W hc k fuel (setB m i) C (putF n f o.dst v) w else False)
        else False
      | none => False)
    | none => match scan (rdyB m) L 0 with
      | none => k f w
      | some i => (match L[i]? with
        | some o => (match scan (fun o j => rdyB m o j && !(Nat.beq j i)) L 0 with
          | none => gx P ops f o w (fun v w' => CK3 (hc && stillB P W L (setB m i) L 0) C w' (fun C => KDgo3 P n ops L W hc k fuel (setB m i) C (putF n f o.dst v) w'))
          | some _ => allR (rdyB m) (fun o i => gx P ops f o w (fun v w' => CK3 (hc && stillB P W L (setB m i) L 0) C w' (fun C => KDgo3 P n ops L W hc k fuel (setB m i) C (putF n f o.dst v) w'))) L 0)
        | none => False)


def KD3 : DrawK := fun P n ops f w k =>
  bif selB ops.toList && okW (mkW ops.toList []) ops.toList 0 then
    (bif needC P (mkW ops.toList []) ops.toList ops.toList 0 then ∃ C : World → Prop, C w.drew ∧ KDgo3 P n ops ops.toList (mkW ops.toList []) true k ops.toList.length 0 C f w.drew
     else KDgo3 P n ops ops.toList (mkW ops.toList []) false k ops.toList.length 0 (fun _ => True) f w.drew)
  else False


theorem KDgo3_wpC {P : Program} {n : Nat} {ops : Array Oper} {W : List Nat} {hc : Bool} {k : Fr → World → Prop} {d : List Deferred} {M : List Nat} {f0 : Fr}
    (hs : selB ops.toList = true) (hW : okW W ops.toList 0 = true) (hM : ∀ j, memB (dsts ops.toList) j = true → memB M j = true) :
    ∀ (fuel m : Nat) (C : World → Prop) (listed : Array Bool) (a : Act) (w : World), (hc = false → C = fun _ => True) → Rl ops listed m → Dc ops listed → a.tmps.size = n → a.defers = d → (∀ j, memB M j = false → FR a j = f0 j) → CN P ops W C listed w →
      KDgo3 P n ops ops.toList W hc k fuel m C (FR a) w →
      wpC P ops (CN P ops W C) (fun a' w' => a'.tmps.size = n ∧ a'.defers = d ∧ (∀ j, memB M j = false → FR a' j = f0 j) ∧ k (FR a') w') fuel listed a w := by
  intro fuel
  have hsel : ∀ (j : Nat) (o : Oper) cs b, ops[j]? = some o → o.op ≠ .select cs b := fun j o cs b ho => selB_spec hs j o cs b (by simpa using ho)
  have noready : ∀ {m : Nat} {listed : Array Bool}, Rl ops listed m → scan (rdyB m) ops.toList 0 = none → Region.ready .any ops listed = [] := by
    intro m listed hr hn
    rw [List.eq_nil_iff_forall_not_mem]
    intro i hi
    obtain ⟨o, ho, hb⟩ := hr.ready.1 hi
    have := scan_none hn i o (by simpa using ho)
    rw [Nat.zero_add] at this
    rw [hb] at this; cases this
  induction fuel with
  | zero =>
    intro m C listed a w hC hr hd hn hdf hf hCw h
    simp only [KDgo3] at h
    cases hsc : scan (rdyB m) ops.toList 0 with
    | none => simp only [hsc] at h; exact ⟨hCw, noready hr hsc, hn, hdf, hf, h⟩
    | some i => simp only [hsc] at h
  | succ fuel ih =>
    intro m C listed a w hC hr hd hn hdf hf hCw h
    simp only [KDgo3] at h
    cases hsq : scan (fun o i => rdyB m o i && !isEff P o) ops.toList 0 with
    | some i =>
      simp only [hsq] at h
      obtain ⟨o, ho, _, hb⟩ := scan_some hsq
      rw [Nat.sub_zero] at ho
      simp only [Bool.and_eq_true, Bool.not_eq_true'] at hb
      obtain ⟨hrd, hne⟩ := hb
      simp only [ho] at h
      have ho' : ops[i]? = some o := by simpa using ho
      have hin : i < ops.size := (Array.getElem?_eq_some_iff.1 ho').1
      have hready : i ∈ Region.ready .any ops listed := hr.ready.2 ⟨o, ho', hrd⟩
      cases hfr : freeL ops o i m ops.toList 0 with
      | false => simp only [hfr, cond_false] at h
      | true =>
        simp only [hfr, cond_true] at h
        have hfree : ∀ j oj, ops[j]? = some oj → j ≠ i → listed.getD j true = false → (∀ e ∈ oj.after, Region.binds .any e = true → e.on ≠ i) → o.apart ops oj = true := fun j oj hj hji hun hno => by
          refine freeL_spec hfr j oj (by simpa using hj) (by omega) ?_ hno
          rw [Nat.zero_add, ← hr.2 j]
          have hlt : j < listed.size := by rw [hr.1]; exact (Array.getElem?_eq_some_iff.1 hj).1
          simpa [hlt] using hun
        have hmono := CN.less (W := W) (C := C) ho' hne
        /- who is ready does not wait for i while i is open -/
        have nowait : ∀ listed', Dc ops listed' → listed'.getD i true = false → (∀ j oj, ops[j]? = some oj → listed'.getD j false = true → tb (W.getD j 0) i = false) ∧ ∀ j ∈ Region.ready .any ops listed', tb (W.getD j 0) i = false := by
          intro listed' hd' hui
          have hif : listed'.getD i false = false := by
            rcases Nat.lt_or_ge i listed'.size with h' | h'
            · simpa [h'] using hui
            · simp [Array.getElem?_eq_none h']
          have ha : ∀ j oj, ops[j]? = some oj → listed'.getD j false = true → tb (W.getD j 0) i = false := by
            intro j oj hoj hl
            cases ht : tb (W.getD j 0) i with
            | false => rfl
            | true =>
              have := anc_listed hW hd' (i := i) j oj hoj hl ht
              rw [hif] at this; cases this
          refine ⟨ha, fun j hj => ?_⟩
          obtain ⟨hju, oj, hoj, hall⟩ := mem_ready.1 hj
          cases hl : tb (W.getD j 0) i with
          | false => rfl
          | true =>
            obtain ⟨h1, h2⟩ := okW_spec hW j oj (by simpa using hoj)
            rw [Nat.zero_add] at h1 h2
            rw [h1] at hl
            obtain ⟨e, he, hb, hc'⟩ := ancM_tb _ _ _ hl
            have hle' := hall e (by simpa using he) (by rw [bnds_eq]; exact hb)
            rcases hc' with hc' | hc'
            · rw [hc'] at hle'; rw [hif] at hle'; cases hle'
            · have hlt : e.on < ops.size := by have := h2 e he hb; have := (Array.getElem?_eq_some_iff.1 hoj).1; omega
              have := ha e.on ops[e.on] (by simp [hlt]) hle'
              rw [hc'] at this; cases this
        have next : ∀ v w', CN P ops W C listed w' → KDgo3 P n ops ops.toList W hc k fuel (setB m i) C (putF n (FR a) o.dst v) w' →
            wpC P ops (CN P ops W C) (fun a' w' => a'.tmps.size = n ∧ a'.defers = d ∧ (∀ j, memB M j = false → FR a' j = f0 j) ∧ k (FR a') w') fuel (listed.setIfInBounds i true) (a.put o.dst v) w' := by
          intro v w' hCw' h'
          exact ih _ _ _ _ _ hC (hr.set hin) (hd.set hready) ((put_size a _ _).trans hn) ((put_defers a _ _).trans hdf) (put_rel ho' hM hf v) (hCw'.more i) (by rw [FR_put, hn]; exact h')
        cases hpu : isPu P (FR a) o with
        | true =>
          simp only [hpu, cond_true] at h
          obtain ⟨r, hrr⟩ := isPu_some hpu
          rcases gx_wanted h with ⟨hw, hx⟩ | ⟨hw, hx⟩
          · cases r with
            | none => rw [exO_eq] at hx; simp only [hrr] at hx; exact hx.out.elim
            | some v =>
              rw [exO_eq] at hx
              simp only [hrr] at hx
              have hx := hx.out
              have hrun := pu_run hrr
              rw [ev_FR] at hrun
              exact wpC_first (S := fun _ => True) ho' hne hsel hmono fuel listed a w hfree hd (fun _ _ _ _ _ _ _ _ _ _ _ => trivial) hready trivial hCw (.inl ⟨hw, fun w' _ => hrun w'⟩) (next v w hCw hx)
          · exact wpC_first (S := fun _ => True) ho' hne hsel hmono fuel listed a w hfree hd (fun _ _ _ _ _ _ _ _ _ _ _ => trivial) hready trivial hCw (.inr ⟨hw, rfl⟩) (next undef w hCw hx)
        | false =>
          simp only [hpu, cond_false] at h
          cases hao : aOk P W i m ops.toList 0 with
          | true =>
            simp only [hao, cond_true] at h
            have hk : ∀ listed', Dc ops listed' → (∀ j, listed.getD j false = true → listed'.getD j false = true) → listed'.getD i true = false → ∀ j ∈ Region.ready .any ops listed', ∀ oj, ops[j]? = some oj → isEff P oj = true → ∀ w', CN P ops W C ((listed'.setIfInBounds i true).setIfInBounds j true) w' → w' = w := by
              intro listed' hd' hle hui j hj oj hoj hej
              exfalso
              have hnw := (nowait listed' hd' hui).2 j hj
              obtain ⟨hju, _, _, _⟩ := mem_ready.1 hj
              rcases aOk_spec hao j oj (by simpa using hoj) hej with hl | hl
              · rw [Nat.zero_add, ← hr.2] at hl
                have := hle j hl
                rcases Nat.lt_or_ge j listed'.size with h' | h'
                · simp [h'] at hju this; rw [hju] at this; cases this
                · simp [Array.getElem?_eq_none h'] at this
              · rw [Nat.zero_add, hnw] at hl; cases hl
            rcases gx_wanted h with ⟨hw, hx⟩ | ⟨hw, hx⟩
            · obtain ⟨v, w', hrun, hww, hK⟩ := quiet_run hne hx
              rw [ev_FR, hww] at hrun
              exact wpC_first (S := fun w' => w' = w) ho' hne hsel hmono fuel listed a w hfree hd hk hready rfl hCw (.inl ⟨hw, fun w' hw' => by rw [hw']; exact hrun⟩) (next v w hCw hK)
            · exact wpC_first (S := fun w' => w' = w) ho' hne hsel hmono fuel listed a w hfree hd hk hready rfl hCw (.inr ⟨hw, rfl⟩) (next undef w hCw hx.2)
          | false =>
            simp only [hao, cond_false] at h
            cases hcd : cand P W ops.toList o i with
            | false => rw [hcd] at h; exact h.elim
            | true =>
            rw [hcd] at h
            obtain ⟨v, hv, hK⟩ := h
            have hiun : listed.getD i true = false := (mem_ready.1 hready).1
            have hCn : C w := hCw ⟨i, o, ho', hcd, fun j oj hj _ hl => (nowait listed hd hiun).1 j oj hj hl⟩
            have hk : ∀ listed', Dc ops listed' → (∀ j, listed.getD j false = true → listed'.getD j false = true) → listed'.getD i true = false → ∀ j ∈ Region.ready .any ops listed', ∀ oj, ops[j]? = some oj → isEff P oj = true → ∀ w', CN P ops W C ((listed'.setIfInBounds i true).setIfInBounds j true) w' → C w' := by
              intro listed' hd' hle hui j hj oj hoj hej w' hcw
              obtain ⟨n1, n2⟩ := nowait listed' hd' hui
              refine hcw ⟨i, o, ho', hcd, fun l ol hl hel hll => ?_⟩
              by_cases hjl : j = l
              · subst hjl; exact n2 j hj
              rw [getD_set_ne false hjl] at hll
              by_cases hil : i = l
              · subst hil; rw [ho'] at hl; cases hl; rw [hne] at hel; cases hel
              rw [getD_set_ne false hil] at hll
              exact n1 l ol hl hll
            refine wpC_first (S := C) ho' hne hsel hmono fuel listed a w hfree hd hk hready hCn hCw ?_ (next v w hCw hK)
            cases hw : Region.wanted o (yielded ops a.tmps) with
            | true =>
              refine .inl ⟨hw, fun w' hw' => ?_⟩
              rcases gx_wanted (hv w' hw') with ⟨_, hx⟩ | ⟨hw2, _⟩
              · obtain ⟨u, w2, hrun, rfl, rfl⟩ := quiet_run hne hx
                rw [ev_FR] at hrun; exact hrun
              · rw [hw] at hw2; cases hw2
            | false =>
              refine .inr ⟨hw, ?_⟩
              rcases gx_wanted (hv w hCn) with ⟨hw2, _⟩ | ⟨_, hx⟩
              · rw [hw] at hw2; cases hw2
              · exact hx.1.symm
    | none =>
      simp only [hsq] at h
      cases hsr : scan (rdyB m) ops.toList 0 with
      | none =>
        simp only [hsr] at h
        exact ⟨hCw, fun _ => ⟨hn, hdf, hf, h⟩, fun i hi => by rw [noready hr hsr] at hi; cases hi⟩
      | some i =>
        simp only [hsr] at h
        obtain ⟨o, ho, _, hrd⟩ := scan_some hsr
        rw [Nat.sub_zero] at ho
        simp only [ho] at h
        have ho' : ops[i]? = some o := by simpa using ho
        have hin : i < ops.size := (Array.getElem?_eq_some_iff.1 ho').1
        have hready : i ∈ Region.ready .any ops listed := hr.ready.2 ⟨o, ho', hrd⟩
        have heff : isEff P o = true := by
          have := scan_none hsq i o ho
          rw [Nat.zero_add] at this
          rw [hrd] at this
          simpa using this
        have all : ∀ j oj, ops[j]? = some oj → rdyB m oj j = true → gx P ops (FR a) oj w (fun v w' => CK3 (hc && stillB P W ops.toList (setB m j) ops.toList 0) C w' (fun C => KDgo3 P n ops ops.toList W hc k fuel (setB m j) C (putF n (FR a) oj.dst v) w')) := by
          intro j oj hoj hrj
          cases hso : scan (fun o j => rdyB m o j && !(Nat.beq j i)) ops.toList 0 with
          | some j' =>
            simp only [hso] at h
            have := allR_spec h j oj (by simpa using hoj) (by rw [Nat.zero_add]; exact hrj)
            rw [Nat.zero_add] at this
            exact this
          | none =>
            simp only [hso] at h
            have hji : j = i := by
              have := scan_none hso j oj (by simpa using hoj)
              rw [Nat.zero_add, hrj] at this
              simp only [Bool.true_and, Bool.not_eq_false'] at this
              exact Nat.eq_of_beq_eq_true this
            subst hji
            rw [ho'] at hoj
            cases hoj
            exact h
        refine ⟨hCw, fun h0 => (by rw [h0] at hready; cases hready), fun j hj => ?_⟩
        obtain ⟨oj, hoj, hrj⟩ := hr.ready.1 hj
        have hx0 := all j oj hoj hrj
        have hjn : j < ops.size := (Array.getElem?_eq_some_iff.1 hoj).1
        have heff : isEff P oj = true := by
          have := scan_none hsq j oj (by simpa using hoj)
          rw [Nat.zero_add] at this
          rw [hrj] at this
          simpa using this
        have next : ∀ v w', CK3 (hc && stillB P W ops.toList (setB m j) ops.toList 0) C w' (fun C => KDgo3 P n ops ops.toList W hc k fuel (setB m j) C (putF n (FR a) oj.dst v) w') →
            wpC P ops (CN P ops W C) (fun a' w' => a'.tmps.size = n ∧ a'.defers = d ∧ (∀ j, memB M j = false → FR a' j = f0 j) ∧ k (FR a') w') fuel (listed.setIfInBounds j true) (a.put oj.dst v) w' := by
          intro v w' h'
          have fin : ∀ C', (∀ w, C' w → C w) → (hc = false → C' = fun _ => True) → CN P ops W C' (listed.setIfInBounds j true) w' → KDgo3 P n ops ops.toList W hc k fuel (setB m j) C' (putF n (FR a) oj.dst v) w' →
              wpC P ops (CN P ops W C) (fun a' w' => a'.tmps.size = n ∧ a'.defers = d ∧ (∀ j, memB M j = false → FR a' j = f0 j) ∧ k (FR a') w') fuel (listed.setIfInBounds j true) (a.put oj.dst v) w' := fun C' hsub hC' h1 h2 =>
            wpC_monoC (C' := CN P ops W C') (fun l w hh hS => hsub w (hh hS)) _ _ _ _ (ih _ _ _ _ _ hC' (hr.set hjn) (hd.set hj) ((put_size a _ _).trans hn) ((put_defers a _ _).trans hdf) (put_rel hoj hM hf v) h1 (by rw [FR_put, hn]; exact h2))
          unfold CK3 at h'
          cases hcc : hc with
          | true =>
            rw [hcc, Bool.true_and] at h'
            cases hst : stillB P W ops.toList (setB m j) ops.toList 0 with
            | true =>
              rw [hst] at h'
              obtain ⟨C', g1, g2, g3⟩ := h'
              exact fin C' g1 (fun e => by rw [hcc] at e; cases e) (fun _ => g2) (by rw [hcc]; exact g3)
            | false =>
              rw [hst] at h'
              refine fin C (fun _ h => h) hC (fun hS => ?_) (by rw [hcc]; exact h')
              have := hS.b (hr.set hjn)
              rw [hst] at this; cases this
          | false =>
            rw [hcc, Bool.false_and] at h'
            exact fin C (fun _ h => h) hC (fun _ => by rw [hC hcc]; trivial) (by rw [hcc]; exact h')
        unfold opC
        simp only [hoj]
        rcases gx_wanted hx0 with ⟨hw, hx⟩ | ⟨hw, hx⟩
        · rw [if_pos hw, if_pos heff]
          have hx := exO_run hx
          rw [ev_FR] at hx
          exact SN_mono next hx
        · rw [if_neg (by simp [hw])]
          exact next _ _ hx

theorem KD3_sound : DrawSound KD3 := by
  intro P n id ops a w k d M f0 Q hm hM hn hd hf hk h
  subst hk
  unfold KD3 at h
  cases h0 : selB ops.toList && okW (mkW ops.toList []) ops.toList 0 with
  | false => rw [h0] at h; exact h.elim
  | true =>
    rw [h0] at h
    simp only [Bool.and_eq_true] at h0
    simp only [cond_true] at h
    have fin : ∀ (C : World → Prop) (hc : Bool), (hc = false → C = fun _ => True) → C w.drew → KDgo3 P n ops ops.toList (mkW ops.toList []) hc (Q .normal) ops.toList.length 0 C (FR a) w.drew → (Code.region id ops true).wp P (lift n d M f0 Q) a w := by
      intro C hc hC hCw hh
      refine wp_region_any hm (wpC_any (C := CN P ops (mkW ops.toList []) C) (fun a' w' h' => ⟨h'.1, h'.2.1, h'.2.2.1, h'.2.2.2⟩) _ _ _ _ (KDgo3_wpC (n := n) (d := d) (M := M) (f0 := f0) h0.1 h0.2 hM ops.size 0 C _ a w.drew hC (Rl.none ops) ?_ hn hd hf (fun _ => hCw) (by simpa using hh)))
      intro j o _ hl
      have h1 := (Rl.none ops).2 j
      rw [hl, tb_zero] at h1; cases h1
    cases hnc : needC P (mkW ops.toList []) ops.toList ops.toList 0 with
    | true =>
      rw [hnc] at h
      obtain ⟨C, hCw, hh⟩ := h
      exact fin C true (fun e => by cases e) hCw hh
    | false =>
      rw [hnc] at h
      exact fin _ false (fun _ => rfl) trivial h

end Go.Al
