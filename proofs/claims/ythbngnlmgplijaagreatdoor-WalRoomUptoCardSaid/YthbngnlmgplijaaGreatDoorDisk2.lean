/- What the functions of package disk do: writing, syncing, crashing. -/
import Derived.Test.YthbngnlmgplijaaGreatDoorDisk
namespace Go.Proofs.YthbngnlmgplijaaGreatDoor
open Go.Al Go.Proofs
open Go.ChangeMaps (setBlock)
set_option linter.unusedVariables false
set_option linter.unusedSimpArgs false
set_option linter.unusedSectionVars false

theorem clear_map {P : Program} {t kt et : TypeId} (ht : P.underlying t = some (.map kt et)) {α β : Type} [DecidableEq α] {kv : α → Value} {vv : β → Value} {w : World} {m : Nat} {M : List (α × β)} (h : MapAt w m kv vv M) (ty : TypeId) :
    ∃ w', (Builtin.clear_ #[t] ty #[.map (some m)]).run P w = .ok (.tuple #[]) w' ∧ MapAt w' m kv vv ([] : List (α × β)) ∧ Fm (· = m) w w' ∧ w'.heap.size = w.heap.size := by
  obtain ⟨es, c, hb, he, hn, hlt⟩ := h.ex
  refine ⟨setBlock w m (.map #[] c), ?_, ⟨⟨#[], c, setBlock_at hb, rfl, by simp, by simp⟩, by simp⟩, Fm.setBlock _ _ _ rfl, setBlock_size _ _ _⟩
  unfold Builtin.clear_
  simp only [List.getElem?_toArray, List.getElem?_cons_zero, Sem.run_bind, run_underlying ht, Result.andThen_ok, Go.Al.run_getObj_map hb, Go.Al.run_setObj_map hb, Sem.run_pure]

theorem dsync_spec {w : World} {b g m : Nat} {d : Dk} (h : DAt w b g m d) : Cl Tryz.prog 38 [pv b] w fun v w' => v = iv d.sync.2 ∧ DAt w' b g m d.sync.1 ∧ Fm (fun x => x = b ∨ x = g ∨ x = m) w w' := by
  have hwf := h.wf.sync
  refine c38 ?_; unfold T38
  refine (dalive_spec h).mono ?_
  rintro _ w ⟨rfl, rfl⟩
  unfold Dk.sync at hwf ⊢
  cases hg : d.gone with
  | true =>
    simp only [RS0, RS1, RS2, RS3, RS4, RS5, cond_true, bne_dec]
    exact ⟨(by trivial), h, Fm.refl _ _⟩
  | false =>
    rw [hg] at hwf
    simp only [RS0, RS1, RS2, RS3, RS4, RS5, cond_false, bne_self_eq_false]
    refine (dact_spec h).mono ?_
    rintro _ w1 ⟨rfl, h1, hf1⟩
    simp only [cond_false] at hwf
    cases hg1 : d.tick.gone with
    | true =>
      simp only [RS0, RS1, RS2, RS3, RS4, RS5, cond_true]
      exact ⟨(by trivial), h1, hf1.mono fun _ _ e => .inl e⟩
    | false =>
      rw [hg1] at hwf
      simp only [RS0, RS1, RS2, RS3, RS4, RS5, cond_false, h1.c1]
      obtain ⟨M, hM, _⟩ := h1.mp
      obtain ⟨w2, hr, hM2, hf2, _⟩ := clear_map Tryz.underlying124 hM 0
      refine RunS_ok hr ?_
      refine ⟨(by trivial), ⟨hwf, ?_, ?_, [], hM2, ?_⟩, hf1.trans hf2 (fun _ _ e => .inl e) (fun _ _ e => .inr (.inr e))⟩
      · have := hf2.heap h1.st h1.bm; rw [hg1] at this; exact this
      · exact h1.by_.keep hf2 h1.gm
      · intro k x
        constructor
        · intro e; cases e
        · rintro ⟨i, _, hc, _⟩
          simp only [Dk.isC_rep] at hc; cases hc
theorem dsync_nil (w : World) : Cl Tryz.prog 38 [.pointer none] w fun v w' => v = iv 2 ∧ w' = w := by
  refine c38 ?_; unfold T38
  refine (dalive_nil w).mono ?_
  rintro _ w ⟨rfl, rfl⟩
  simp only [RS0, RS1, RS2, RS3, RS4, RS5, bne_dec]
  exact ⟨(by trivial), (by trivial)⟩

/-- The map behind a sector's first write. -/
theorem DAt.noted {w : World} {b g m : Nat} {d : Dk} (h : DAt w b g m d) {i : Nat} (hi : i < d.cur.length) {M' : List (Int × Bs)} {w' : World}
    (hM : ∃ M : List (Int × Bs), MapAt w m iv stv M ∧ (∀ k x, (k, x) ∈ M ↔ ∃ i : Nat, k = (i : Int) ∧ Dk.isC d.chg i = true ∧ d.old[i]? = some x) ∧
      (Dk.isC d.chg i = false → M' = setD M (i : Int) (d.cur.getD i [])) ∧ (Dk.isC d.chg i = true → M' = M)) (hM' : MapAt w' m iv stv M') :
    ∀ k x, (k, x) ∈ M' ↔ ∃ j : Nat, k = (j : Int) ∧ Dk.isC (d.chg.set i true) j = true ∧ d.old[j]? = some x := by
  obtain ⟨M, hMw, hmem, hno, hyes⟩ := hM
  have hil : i < d.chg.length := by rw [h.wf.lc]; exact hi
  intro k x
  cases hc : Dk.isC d.chg i with
  | true =>
    rw [hyes hc, hmem]
    constructor
    · rintro ⟨j, rfl, hj, hx⟩
      exact ⟨j, rfl, by rw [Dk.isC_set _ _ _ hil]; split <;> first | rfl | exact hj, hx⟩
    · rintro ⟨j, rfl, hj, hx⟩
      refine ⟨j, rfl, ?_, hx⟩
      rw [Dk.isC_set _ _ _ hil] at hj
      split at hj
      · rename_i e; subst e; exact hc
      · exact hj
  | false =>
    have hs := hno hc
    subst hs
    have hold : d.old[i]? = some (d.cur.getD i []) := by
      rw [h.wf.same i hc, List.getD_eq_getElem?_getD, List.getElem?_eq_getElem hi]; rfl
    rw [← getD_some hM'.keys, getD_setD]
    split
    · rename_i e
      subst e
      constructor
      · intro e; cases e
        exact ⟨i, rfl, by rw [Dk.isC_set _ _ _ hil, if_pos rfl], hold⟩
      · rintro ⟨j, hj, _, hx⟩
        have : i = j := by omega
        subst this
        rw [hold] at hx; exact hx
    · rename_i hne
      rw [getD_some hMw.keys, hmem]
      constructor
      · rintro ⟨j, rfl, hj, hx⟩
        exact ⟨j, rfl, by rw [Dk.isC_set _ _ _ hil]; split <;> first | rfl | exact hj, hx⟩
      · rintro ⟨j, rfl, hj, hx⟩
        refine ⟨j, rfl, ?_, hx⟩
        rw [Dk.isC_set _ _ _ hil, if_neg (fun e => hne (by rw [e]))] at hj
        exact hj

theorem dwrite_spec {w : World} {b g m : Nat} {d : Dk} (h : DAt w b g m d) (a : Int) (s : Bs) (hs : s.length ≤ 9223372036854775807) : Cl Tryz.prog 94 [pv b, iv a, stv s] w fun v w' => v = iv (d.write a s).2 ∧ DAt w' b g m (d.write a s).1 ∧ Fm (fun x => x = b ∨ x = g ∨ x = m) w w' := by
  have hn := h.wf.n1
  refine c94 ?_; unfold T94
  refine (dalive_spec h).mono ?_
  rintro _ w ⟨rfl, rfl⟩
  unfold Dk.write
  cases hg : d.gone with
  | true =>
    simp only [RS0, RS1, RS2, RS3, RS4, RS5, cond_true, bne_dec]
    exact ⟨(by trivial), h, Fm.refl _ _⟩
  | false =>
    have er := rem_nat (TypeDesc.int IntKind.i64) (n := s.length) (m := 64) (b := 64) (by omega) hs rfl
    have eq := quo_nat (TypeDesc.int IntKind.i64) (n := s.length) (m := 64) (b := 64) (by omega) hs rfl
    simp only [RS0, RS1, RS2, RS3, RS4, RS5, str_size, str_nil, str_inj, cond_false, bne_self_eq_false, er]
    by_cases hr : s.length % 64 = 0
    · have e1 : (((s.length % 64 : Nat) : Int) != 0) = false := by rw [hr]; rfl
      have e1' : decide (s.length % 64 ≠ 0) = false := by simp [hr]
      simp only [RS0, RS1, RS2, RS3, RS4, RS5, str_size, str_nil, str_inj, e1, e1', eq, Bool.false_or]
      refine (dhas_spec h a _).mono ?_
      rintro _ w ⟨rfl, rfl⟩
      cases hh : d.has a (s.length / 64 : Nat) with
      | false =>
        simp only [RS0, RS1, RS2, RS3, RS4, RS5, cond_true]
        exact ⟨(by trivial), h, Fm.refl _ _⟩
      | true =>
        simp only [RS0, RS1, RS2, RS3, RS4, RS5, cond_false]
        unfold Dk.has at hh
        simp only [decide_eq_true_eq] at hh
        obtain ⟨p, rfl⟩ := Int.eq_ofNat_of_zero_le hh.1
        rw [Int.toNat_natCast]
        have hlen : s.length = 64 * (s.length / 64) := by omega
        generalize hK : s.length / 64 = K at hh hlen ⊢
        refine ⟨fun vs w2 => ∃ (i r : Nat) (t : Bs) (e : Dk), vs = [iv (i : Nat), stv t] ∧ t.length = 64 * r ∧ i + r ≤ d.cur.length ∧ e.cur.length = d.cur.length ∧ d.wr p (Dk.chunks K s) = e.wr i (Dk.chunks r t) ∧ DAt w2 b g m e ∧ Fm (fun x => x = b ∨ x = g ∨ x = m) w w2,
          fun vs _ => sz1 vs, ⟨p, K, s, d, rfl, hlen, by omega, rfl, rfl, h, Fm.refl _ _⟩, ?_⟩
        rintro _ w2 iat idata ⟨i, r, t, e, hvs, htl, hir, hel, heq, hE, hf⟩
        cases hvs
        cases r with
        | zero =>
          have : t = [] := List.eq_nil_of_length_eq_zero (by omega)
          subst this
          simp only [RS0, RS1, RS2, RS3, RS4, RS5, str_size, str_nil, str_inj, decide_true]
          rw [heq]
          exact ⟨(by trivial), hE, hf⟩
        | succ r =>
          have hne : t ≠ [] := by rintro rfl; simp at htl
          have hie : i < e.cur.length := by omega
          have e2 : decide (t = []) = false := by simpa using hne
          simp only [RS0, RS1, RS2, RS3, RS4, RS5, str_size, str_nil, str_inj, e2]
          have heq2 : d.wr p (Dk.chunks K s) = (let d' := (e.put i (t.take 64)).tick; bif d'.gone then (d', 5) else d'.wr (i + 1) (Dk.chunks r (t.drop 64))) := heq
          refine Jn_at (fun vs w3 => vs = [] ∧ (∃ M', MapAt w3 m iv stv M' ∧ ∀ k x, (k, x) ∈ M' ↔ ∃ j : Nat, k = (j : Int) ∧ Dk.isC (e.chg.set i true) j = true ∧ e.old[j]? = some x) ∧ Fm (· = m) w2 w3) ?_ ?_
          · rintro _ w3 ⟨rfl, ⟨M', hM', hmem'⟩, hf3⟩ _
            refine ⟨rfl, ?_⟩
            have et : slS (stv t) none (some (.int .i64 64)) = some (stv (t.take 64)) := slS_hi (l := t) (i := 64) (by omega) .i64
            have et2 : slS (stv t) (some (.int .i64 64)) none = some (stv (t.drop 64)) := slS_lo (l := t) (i := 64) (by omega) .i64
            simp only [RS0, RS1, RS2, RS3, RS4, RS5, et, et2]
            have hst3 := hf3.heap hE.st hE.bm
            have hby3 := hE.by_.keep hf3 hE.gm
            have hne3 : DAt w3.drew b g m { e with chg := List.replicate e.cur.length false, old := e.cur } ∨ True := .inr trivial
            -- the sector's slice
            refine Cl.mono (k := fun v w' => v = .slice (some ⟨g, 64 * i, none⟩) 64 (64 * e.cur.length - 64 * i) ∧ w' = w3.drew) ?_ ?_
            · refine c121 ?_; unfold T121
              have g1 : IntKind.i64.wrap ((i : Int) * 64) = ((64 * i : Nat) : Int) := by rw [wrap_id] <;> omega
              have g2 : IntKind.i64.wrap ((i : Int) + 1) = ((i + 1 : Nat) : Int) := by rw [wrap_id] <;> omega
              have g3 : IntKind.i64.wrap (((i + 1 : Nat) : Int) * 64) = ((64 * (i + 1) : Nat) : Int) := by rw [wrap_id] <;> omega
              obtain ⟨o', hs, ho, _⟩ := slV_lh (g := g) (o := 0) (n := 64 * e.cur.length) (c := 64 * e.cur.length) (i := 64 * i) (j := 64 * (i + 1)) (by omega) (by omega) .i64 .i64
              have c0 : w3.cell? ⟨b, 0, none⟩ = some (.slice (some ⟨g, 0, none⟩) (64 * e.cur.length) (64 * e.cur.length)) := by rw [cell_at hst3]; rfl
              simp only [RS0, RS1, RS2, RS3, RS4, RS5, c0, g1, g2, g3, hs]
              rw [ho (by omega), show 64 * (i + 1) - 64 * i = 64 by omega, Nat.zero_add]
              exact ⟨(by trivial), (by trivial)⟩
            · rintro _ _ ⟨rfl, rfl⟩
              have hfl := Dk.flat_len hE.wf.s1
              have ht64 : (t.take 64).length = 64 := by rw [List.length_take]; omega
              have hfd := Fm.drew (fun _ => False) w3
              obtain ⟨w4, hr4, hby4, hs4, hf4⟩ := (hby3.keep hfd (fun e => e)).copyS B44 (o := 64 * i) (n := 64) (x := t.take 64) (by omega) (by rw [hfl]; omega) (64 * e.cur.length - 64 * i) 3
              refine RunS_ok hr4 ?_
              have hput : DAt w4 b g m (e.put i (t.take 64)) := by
                refine ⟨hE.wf.put i ht64, ?_, ?_, M', ?_, hmem'⟩
                · have := hf4.heap (hfd.heap hst3 (fun e => e)) hE.bg
                  simpa [Dk.put] using this
                · have := hby4
                  rw [ht64] at this
                  have l1 := Dk.flat_lay hE.wf.s1 hie (j := 0) (y := t.take 64) (by omega) (by omega)
                  simp only [Nat.add_zero, List.take_zero, List.nil_append] at l1
                  rw [l1] at this
                  exact this
                · exact (hM'.keep hfd (fun e => e)).keep hf4 (fun x => hE.gm x.symm)
              refine (dact_spec hput).mono ?_
              rintro _ w5 ⟨rfl, h5, hf5⟩
              have hF : Fm (fun x => x = b ∨ x = g ∨ x = m) w w5 :=
                (((hf.trans hf3 (U := fun x => x = b ∨ x = g ∨ x = m) (fun _ _ e => e) (fun _ _ e => .inr (.inr e))).trans hfd (U := fun x => x = b ∨ x = g ∨ x = m) (fun _ _ e => e) (fun _ _ e => e.elim)).trans hf4 (U := fun x => x = b ∨ x = g ∨ x = m) (fun _ _ e => e) (fun _ _ e => .inr (.inl e))).trans hf5 (fun _ _ e => e) (fun _ _ e => .inl e)
              rw [heq2]
              cases hg5 : (e.put i (t.take 64)).tick.gone with
              | true =>
                simp only [RS0, RS1, RS2, RS3, RS4, RS5, hg5, cond_true]
                exact ⟨(by trivial), h5, hF⟩
              | false =>
                have g4 : IntKind.i64.wrap ((i : Int) + 1) = ((i + 1 : Nat) : Int) := by rw [wrap_id] <;> omega
                simp only [RS0, RS1, RS2, RS3, RS4, RS5, cond_false, g4]
                have hl5 : (e.put i (t.take 64)).tick.cur.length = e.cur.length := by rw [(Dk.tick_cur _).1]; simp [Dk.put]
                refine ⟨⟨i + 1, r, t.drop 64, _, rfl, by rw [List.length_drop]; omega, by omega, by rw [hl5, hel], ?_, h5, hF⟩, ?_⟩
                · simp only [hg5, cond_false]
                · rw [sz1_eq, sz1_eq, List.length_drop]; omega
          · intro kk hkk
            obtain ⟨M, hM, hmem⟩ := hE.mp
            simp only [RS0, RS1, RS2, RS3, RS4, RS5, hE.c1]
            refine RunS_ok (lookup_run K118 hM (i : Int) true (z9 _)) ?_
            cases hc : Dk.isC e.chg i with
            | true =>
              have hlt : i < e.old.length := by rw [hE.wf.lo]; omega
              have hget : getD M (i : Int) = some e.old[i] := (getD_some hM.keys).2 ((hmem _ _).2 ⟨i, rfl, hc, List.getElem?_eq_getElem hlt⟩)
              simp only [hget, okV, cond_true]
              simp only [RS0, RS1, RS2, RS3, RS4, RS5]
              exact hkk _ _ ⟨rfl, ⟨M, hM, hE.noted hie ⟨M, hM, hmem, fun e => (by rw [hc] at e; cases e), fun _ => rfl⟩ hM⟩, Fm.refl _ _⟩
            | false =>
              have hget : getD M (i : Int) = none := by
                cases hq : getD M (i : Int) with
                | none => rfl
                | some x =>
                  obtain ⟨j, hj, hcj, _⟩ := (hmem _ _).1 ((getD_some hM.keys).1 hq)
                  have : i = j := by omega
                  subst this; rw [hc] at hcj; cases hcj
              simp only [hget, okV, cond_true]
              simp only [RS0, RS1, RS2, RS3, RS4, RS5]
              refine ⟨fun w' => w'.cell? ⟨b, 1, none⟩ = some (.map (some m)), hE.c1, ?_⟩
              refine ⟨.map (some m), fun w' hw' => by simp only [RS0, RS1, RS2, RS3, RS4, RS5, hw']; exact ⟨(by trivial), (by trivial)⟩, ?_⟩
              have hEd := hE.drew
              refine (dsector_spec hEd hie).mono ?_
              rintro _ _ ⟨rfl, rfl⟩
              refine ⟨hE.c1, ?_⟩
              have hfl := Dk.flat_len hE.wf.s1
              refine RunS_ok (hEd.by_.conv B44 (o := 64 * i) (n := 64) (by rw [hfl]; omega) _) ⟨rfl, ?_⟩
              rw [Dk.flat_sec hE.wf.s1 hie]
              obtain ⟨w4, hr4, hM4, hf4, _⟩ := update_run K118 (hM.keep (Fm.drew (fun _ => False) w2) (fun e => e)) (i : Int) (e.cur.getD i [])
              refine RunU_ok hr4 ?_
              have hf24 : Fm (· = m) w2 w4 := (Fm.drew (fun _ => False) w2).trans hf4 (fun _ _ e => e.elim) (fun _ _ e => e)
              exact hkk _ _ ⟨rfl, ⟨_, hM4, hE.noted hie ⟨M, hM, hmem, fun _ => rfl, fun e => (by rw [hc] at e; cases e)⟩ hM4⟩, hf24⟩
    · have e1 : (((s.length % 64 : Nat) : Int) != 0) = true := by
        rw [bne_dec]; simp; omega
      have e1' : decide (s.length % 64 ≠ 0) = true := by simp [hr]
      simp only [RS0, RS1, RS2, RS3, RS4, RS5, str_size, str_nil, str_inj, e1, e1', Bool.true_or, cond_true]
      exact ⟨(by trivial), h, Fm.refl _ _⟩
theorem dwrite_nil (w : World) (a s : Value) : Cl Tryz.prog 94 [.pointer none, a, s] w fun v w' => v = iv 2 ∧ w' = w := by
  refine c94 ?_; unfold T94
  refine (dalive_nil w).mono ?_
  rintro _ w ⟨rfl, rfl⟩
  simp only [RS0, RS1, RS2, RS3, RS4, RS5, bne_dec]
  exact ⟨(by trivial), (by trivial)⟩

end Go.Proofs.YthbngnlmgplijaaGreatDoor
