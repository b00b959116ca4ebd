/- Laid for one claim by slim.py out of: PoolOps2 PgRDec RfPool RfPool2 RfPool3 RfPool4 RfPool5 RfPool6 RfPool7 RfPool8 PoolNew RfPool9 PoolSys SortI PlDirty PlLike PlBoth. -/
import Derived.Test.YthbngnlmgplijaaGreatDoorPlyE
namespace Go.Proofs.YthbngnlmgplijaaGreatDoor
open Go.Al Go.Proofs
set_option linter.unusedVariables false
set_option linter.unusedSimpArgs false
set_option linter.unusedSectionVars false
set_option maxRecDepth 100000

abbrev nlv : Value := .slice none 0 0
theorem bldFr0 (w : World) : (Instr.build 143 #[(1, iv (-1))]).run Tryz.prog w = .ok (.agg (frC (pf0, nlv)).toArray) w := by kernel_rfl
theorem bldFr1 (p : Pg) (a : Option Addr) (j c : Nat) (n : Int) (w : World) : (Instr.build 143 #[(0, .agg (pcs p (.slice a j c))), (1, iv n)]).run Tryz.prog w = .ok (.agg (frC (⟨p, n, false⟩, .slice a j c)).toArray) w := by kernel_rfl
theorem bldFr2 (p : Pg) (a : Option Addr) (j c : Nat) (n : Int) (w : World) : (Instr.build 143 #[(0, .agg (pcs p (.slice a j c))), (1, iv n), (2, .bool true)]).run Tryz.prog w = .ok (.agg (frC (⟨p, n, true⟩, .slice a j c)).toArray) w := by kernel_rfl
theorem frC_one {x : PV} (h : x.2.oneCell' = true) : ∀ u ∈ (frC x).toArray.toList, u.oneCell' = true := by
  intro u hu
  simp [frC] at hu
  rcases hu with rfl | rfl | rfl | rfl | rfl | rfl | rfl | rfl <;> first | rfl | assumption
theorem PgAs.sl {w : World} {cs : Array Value} {p : Pg} (h : PgAs w cs p) : ∃ a j c, cs = pcs p (.slice a j c) := by
  obtain ⟨v, h1, _, h3⟩ := h.ex
  obtain ⟨a, j, c, rfl⟩ := cells_sl h3
  exact ⟨a, j, c, h1⟩
theorem put_len (s : PS) (i : Nat) : (s.put i).1.p.fr.length = s.p.fr.length ∧ (s.put i).1.p.pages = s.p.pages ∧ (s.put i).1.p.frm = s.p.frm := by
  unfold PS.put
  cases decide ((pEnc (s.p.get i).pg).2 = 0) with
  | false => exact ⟨rfl, rfl, rfl⟩
  | true =>
    cases decide ((s.putW i).2 = 0) with
    | false => exact ⟨rfl, rfl, rfl⟩
    | true => exact ⟨Pl.lay_len _ _ _, rfl, rfl⟩
theorem write1_len (s : PS) (i : Nat) : (s.write1 i).1.p.fr.length = s.p.fr.length ∧ (s.write1 i).1.p.pages = s.p.pages ∧ (s.write1 i).1.p.frm = s.p.frm := by
  unfold PS.write1
  cases decide ((s.l.last : Int) ≤ (s.p.get i).pg.lsn) with
  | false => exact put_len s i
  | true =>
    cases decide ((s.flu i).2.2 = 0) with
    | false => exact ⟨rfl, rfl, rfl⟩
    | true => exact put_len _ i
theorem take_len (s : PS) (pick : Int) : (s.take pick).1.p.pages = s.p.pages ∧ (s.take pick).1.p.frm = s.p.frm := by
  unfold PS.take
  cases s.p.hold (-1) with
  | some i => exact ⟨rfl, rfl⟩
  | none =>
    have := write1_len s (PS.pickAt s.p.fr.length pick)
    simp only
    cases (s.p.get (PS.pickAt s.p.fr.length pick)).chg with
    | false => exact ⟨rfl, rfl⟩
    | true =>
      cases decide ((s.write1 (PS.pickAt s.p.fr.length pick)).2 = 0) with
      | false => exact this.2
      | true => exact this.2
section
variable {w w' : World} {Xl Xp Q S : Nat → Prop} {pb lb db g m fb ob : Nat} {F : List PV} {s : PS}
theorem St_frame {X : Nat → Prop} {p : Pl} (h : PIn w X Q pb lb db fb ob F p) {i : Nat} (hi : i < F.length) (x : PV) (h1 : x.2.oneCell' = true) {k : KV} (hk : ∀ w', w'.heap[fb]? = some (.cells ((F.set i x).flatMap frC).toArray 143) → w'.heap.size = w.heap.size → Fm (· = fb) w w' → k undef w') :
    St 8 w (.pointer (some ⟨fb, i * 8, none⟩)) (.agg (frC x).toArray) k := by
  refine St_blkN h.fr rfl (by rw [List.size_toArray, flat_len frC_len]; omega) (frC_one h1) ?_
  intro w' hw' hs' hf'
  rw [ov_eq _ _ _ (by rw [List.size_toArray, flat_len frC_len]; show i * 8 + 8 ≤ _; omega)] at hw'
  refine hk w' ?_ hs' hf'
  rw [hw', flat_split frC_len F i x hi]
  rfl
theorem SI.lay (h : SI w Xl Xp Q pb lb db g m fb ob F s) {Q' : Nat → Prop} {i : Nat} {x : PV} (hf : Fm S w w') (hS : ∀ y, S y → y = fb ∨ ¬ SY Xl Xp db g m y) (hfr : w'.heap[fb]? = some (.cells ((F.set i x).flatMap frC).toArray 143)) (hx : HeldP w' Q' x.2 x.1.pg)
    (hQ : ∀ y, Q y → Q' y) (hQ' : ∀ y, Q' y → Q y ∨ (¬ SY Xl Xp db g m y ∧ y < w'.heap.size)) (hn : x.1.num = -1 ∨ (0 ≤ x.1.num ∧ x.1.num < (s.p.pages : Int))) : SI w' Xl (fun y => Xp y ∨ Q' y) Q' pb lb db g m fb ob (F.set i x) (s.lay i x.1) := by
  have hfb := h.hP.xs.2.1
  have hno : ∀ y, SY Xl Xp db g m y → y ≠ fb → ¬ S y := fun y hy hne e => by
    rcases hS y e with e | e
    · exact hne e
    · exact e hy
  have hnq : ∀ y, ¬ Xp y → SY Xl Xp db g m y → ¬ Q' y := fun y h1 h2 e => by
    rcases hQ' y e with e | e
    · exact h1 (h.hP.xs.2.2.2 y e)
    · exact e.1 h2
  refine ⟨h.hL.keep hf (fun y hy => hno y (.inl hy) (by rintro rfl; exact h.lp _ hy hfb)), h.hD.keep hf (hno _ (.inr (.inr (.inl rfl))) (by rintro rfl; exact h.pd.1 hfb)) (hno _ (.inr (.inr (.inr (.inl rfl)))) (by rintro rfl; exact h.pd.2.1 hfb)) (hno _ (.inr (.inr (.inr (.inr rfl)))) (by rintro rfl; exact h.pd.2.2 hfb)), h.hP.put hf (fun y hy => ?_) hfr hx hQ (fun y hy => ?_), h.wf.lay hn, ?_, h.ld, ?_⟩
  · rcases hS y hy with e | e
    · exact .inl e
    · exact .inr (fun hx => e (.inr (.inl hx)))
  · rcases hQ' y hy with e | e
    · exact .inl e
    · exact .inr ⟨fun hx => e.1 (.inr (.inl hx)), e.2⟩
  · rintro y hy (e | e)
    · exact h.lp y hy e
    · exact hnq y (h.lp y hy) (.inl hy) e
  · refine ⟨?_, ?_, ?_⟩ <;> rintro (e | e)
    · exact h.pd.1 e
    · exact hnq _ h.pd.1 (.inr (.inr (.inl rfl))) e
    · exact h.pd.2.1 e
    · exact hnq _ h.pd.2.1 (.inr (.inr (.inr (.inl rfl)))) e
    · exact h.pd.2.2 e
    · exact hnq _ h.pd.2.2 (.inr (.inr (.inr (.inr rfl)))) e
theorem SI.same (h : SI w Xl Xp Q pb lb db g m fb ob F s) : (fun y => Xp y ∨ Q y) = Xp := by
  funext y
  exact propext ⟨fun e => e.elim (fun e => e) (h.hP.xs.2.2.2 y), .inl⟩
set_option maxHeartbeats 2000000 in
theorem ptake_spec (h : SI w Xl Xp Q pb lb db g m fb ob F s) (pick : Int) : Cl Tryz.prog 105 [pv pb, iv pick] w fun v w' => ∃ F', SI w' Xl Xp Q pb lb db g m fb ob F' (s.take pick).1 ∧ Fm (SY Xl Xp db g m) w w' ∧
    (((s.take pick).2.2 ≠ 0 ∧ v = .tuple #[.pointer none, iv (s.take pick).2.2]) ∨ ((s.take pick).2.2 = 0 ∧ v = .tuple #[.pointer (some ⟨fb, (s.take pick).2.1 * 8, none⟩), iv 0] ∧ (s.take pick).2.1 < F'.length)) := by
  have hfl := h.flen
  have hlen := h.hP.len
  refine c105 ?_; unfold T105
  refine (pholds_spec h.hP hfl.2 (-1)).mono ?_
  rintro _ w2 ⟨rfl, rfl⟩
  unfold PS.take
  cases hh : s.p.hold (-1) with
  | some i =>
    obtain ⟨f, hf, _⟩ := Pl.hold_some hh
    have := (List.getElem?_eq_some_iff.1 hf).1
    simp only [holdV]
    simp only [RS0, RS1, RS2, RS3, RS4, RS5]
    exact ⟨F, h, Fm.refl _ _, .inr ⟨(by trivial), (by trivial), by omega⟩⟩
  | none =>
    simp only [holdV]
    obtain ⟨m1, m2, m3, m4⟩ := mod3 (TypeDesc.int IntKind.i64) (n := F.length) (by omega) (by omega) pick
    have hpk : PS.pickAt s.p.fr.length pick = modN F.length pick := by unfold PS.pickAt; rw [hlen]
    rw [hpk]
    generalize modN F.length pick = i at m3 m4
    have hx : F[i]? = some F[i] := List.getElem?_eq_getElem m4
    generalize F[i] = x at hx
    rw [(h.hP.frg hx).2]
    have hfd := Fm.drew (fun _ => False) w2
    simp only [RS0, RS1, RS2, RS3, RS4, RS5, h.hP.c4, true_and, m1, m2, m3, PIn.ix i m4 fb]
    refine Jn_at (fun vs w' => vs = [] ∧ ∃ F1 s1, F1.length = F.length ∧ SI w' Xl Xp Q pb lb db g m fb ob F1 s1 ∧ Fm (SY Xl Xp db g m) w2 w' ∧ (bif x.1.chg then (bif decide ((s.write1 i).2 = 0) then ((s.write1 i).1.lay i pf0, i, 0) else ((s.write1 i).1, 0, (s.write1 i).2)) else (s.lay i pf0, i, 0)) = (s1.lay i pf0, i, 0)) ?_ ?_
    · rintro _ w4 ⟨rfl, F1, s1, hl1, h4, hF4, he⟩ _
      refine ⟨rfl, ?_⟩
      rw [he]
      refine RunS_ok (bldFr0 _) ?_
      simp only [RS0, RS1, RS2, RS3, RS4, RS5]
      refine St_frame h4.hP (i := i) (by omega) (pf0, nlv) rfl ?_
      intro w5 hw5 hs5 hf5
      have h5 := h4.lay (x := (pf0, nlv)) hf5 (fun y e => .inl e) hw5 (HeldP.zero _ _) (fun _ e => e) (fun y e => .inl e) (.inl rfl)
      rw [h4.same] at h5
      exact ⟨_, h5, SY_trans hF4 (hf5.mono (by rintro y _ rfl; exact .inr (.inl h4.hP.xs.2.1))), .inr ⟨(by trivial), (by trivial), by rw [List.length_set]; omega⟩⟩
    intro jj hjj
    have hd := h.keep0 hfd
    simp only [RS0, RS1, RS2, RS3, RS4, RS5, h.hP.f7 hx]
    cases hc : x.1.chg with
    | false =>
      rw [hc, cond_false] at hjj
      simp only [RS0, RS1, RS2, RS3, RS4, RS5]
      exact hjj _ _ ⟨rfl, F, s, rfl, hd, SY_of hfd, rfl⟩
    | true =>
      rw [hc, cond_true] at hjj
      simp only [cond_true]
      simp only [RS0, RS1, RS2, RS3, RS4, RS5]
      refine (pwrite1_spec hd hx).mono ?_
      rintro _ w3 ⟨rfl, ⟨F', h3⟩, hF3⟩
      have hF3' := SY_trans (SY_of hfd) hF3
      simp only [RS0, RS1, RS2, RS3, RS4, RS5, bne_dec]
      cases hq : decide ((s.write1 i).2 = 0) with
      | true =>
        rw [hq, cond_true] at hjj
        simp only [RS0, RS1, RS2, RS3, RS4, RS5]
        exact hjj _ _ ⟨rfl, F', (s.write1 i).1, by rw [h3.hP.len, (write1_len s i).1, hlen], h3, hF3', rfl⟩
      | false =>
        rw [decide_eq_false_iff_not] at hq
        simp only [RS0, RS1, RS2, RS3, RS4, RS5, cond_false]
        exact ⟨F', h3, hF3', .inl ⟨hq, (by trivial)⟩⟩
theorem read_le {d : Dk} (h : d.Wf) (a k : Int) : (d.read a k).1.length ≤ 64 * 65536 := by
  unfold Dk.read
  cases d.gone with
  | true => simp
  | false =>
    cases d.has a k with
    | false => simp
    | true =>
      simp only [cond_false, Bool.not_true]
      rw [Dk.flat_len (fun x hx => h.s1 x (List.mem_of_mem_drop (List.mem_of_mem_take hx))), List.length_take, List.length_drop]
      have := h.n1
      omega
theorem known_range {p : Pl} {n : Int} (h : p.known n = 0) : 0 ≤ n ∧ n < (p.pages : Int) := by
  unfold Pl.known at h
  cases h1 : decide (n < 0) with
  | true => rw [h1] at h; cases h
  | false =>
    cases h2 : decide ((p.pages : Int) ≤ n) with
    | true => rw [h1, h2] at h; cases h
    | false =>
      rw [decide_eq_false_iff_not] at h1 h2
      omega
theorem retPf {w : World} {g : Nat} {cs : Array Value} {u : Value} (h : w.heap[g]? = some (.cells cs 61)) (hn : cs.size = 6) {k : KV} (hk : k (.tuple #[.agg cs, u]) w) : RetO (resL Tryz.prog (fun j => bif Nat.beq j 6 then pv g else bif Nat.beq j 7 then u else undef) w [(ResultVar.cell 6 61), (ResultVar.tmp 7)]) w k :=
  retPg (g := g) (i := 6) (j := 7) (u := u) h hn rfl rfl k hk
theorem pcs_inj {p : Pg} {v u : Value} (h : pcs p v = pcs p u) : v = u := by
  have e : (pcs p v).toList = (pcs p u).toList := by rw [h]
  simpa [pcs] using e
set_option maxHeartbeats 4000000 in
theorem pfetch_spec (h : SI w Xl Xp Q pb lb db g m fb ob F s) (n pick : Int) : Cl Tryz.prog 33 [pv pb, iv n, iv pick] w fun v w' => ∃ u, v = .tuple #[.agg (pcs (s.fetch n pick).2.1 u), iv (s.fetch n pick).2.2] ∧ PgOw w' w.heap.size (pcs (s.fetch n pick).2.1 u) (s.fetch n pick).2.1 ∧
    (∃ Xp' Q' F', SI w' Xl Xp' Q' pb lb db g m fb ob F' (s.fetch n pick).1 ∧ (∀ y, Xp' y → Xp y ∨ w.heap.size ≤ y) ∧ ∀ k, u.ownBlock = some k → ¬ Xp' k) ∧ Fm (SY Xl Xp db g m) w w' := by
  have hfl := h.flen
  have hlt := h.lt
  have hfetch : s.fetch n pick = bif decide (s.p.known n = 0) then (match s.p.hold n with
    | some i => (s, (s.p.get i).pg, 0)
    | none => bif decide ((s.raw n).2 = 0) then (bif decide ((pDec (s.raw n).1).2 = 0) then (bif decide ((s.take pick).2.2 = 0) then ((s.take pick).1.lay (s.take pick).2.1 ⟨(pDec (s.raw n).1).1, n, false⟩, (pDec (s.raw n).1).1, 0) else ((s.take pick).1, pg0, (s.take pick).2.2)) else (s, pg0, 60)) else (s, pg0, (s.raw n).2))
    else (s, pg0, s.p.known n) := rfl
  refine c33 ?_; unfold T33
  rw [pg0_cells]
  refine New_any ?_
  intro x1 w1 hx1 hs1 hw1 hf1
  have h1 := h.keep0 hf1
  have bad : ∀ {w2 : World} {Xp' Q' F'} {s' : PS}, SI w2 Xl Xp' Q' pb lb db g m fb ob F' s' → (∀ y, Xp' y → Xp y ∨ w.heap.size ≤ y) → w2.heap[x1]? = some (.cells (pcs pg0 nlv) 61) → ¬ SY Xl Xp' db g m x1 → Fm (SY Xl Xp db g m) w w2 → ∀ e : Int, s.fetch n pick = (s', pg0, e) →
      St 6 w2 (pv x1) (.agg (pcs pg0 nlv)) fun u_8 w_9 => RetO (resL Tryz.prog (fun j => bif Nat.beq j 6 then pv x1 else bif Nat.beq j 7 then iv e else undef) w_9 [(ResultVar.cell 6 61), (ResultVar.tmp 7)]) w_9 (fun v w' => ∃ u, v = .tuple #[.agg (pcs (s.fetch n pick).2.1 u), iv (s.fetch n pick).2.2] ∧ PgOw w' w.heap.size (pcs (s.fetch n pick).2.1 u) (s.fetch n pick).2.1 ∧
    (∃ Xp' Q' F', SI w' Xl Xp' Q' pb lb db g m fb ob F' (s.fetch n pick).1 ∧ (∀ y, Xp' y → Xp y ∨ w.heap.size ≤ y) ∧ ∀ k, u.ownBlock = some k → ¬ Xp' k) ∧ Fm (SY Xl Xp db g m) w w') := by
    intro w2 Xp' Q' F' s' h2 hX hw2 hno hF e he
    rw [he]
    refine St_all hw2 rfl rfl (pcs_one rfl) ?_
    intro w3 hw3 hs3 hf3
    refine retPf hw3 rfl ⟨nlv, rfl, PgOw.zero _ _, ⟨Xp', Q', F', h2.keep hf3 (by rintro y hy rfl; exact hno hy), hX, fun k hk => by cases hk⟩, hF.trans hf3 (fun _ _ e => e) (by rintro y hy rfl; omega)⟩
  have good : ∀ {w2 : World} {Xp' Q' F'} {s' : PS} {i : Nat} {x : PV}, SI w2 Xl Xp' Q' pb lb db g m fb ob F' s' → (∀ y, Xp' y → Xp y ∨ w.heap.size ≤ y) → w2.heap[x1]? = some (.cells (pcs pg0 nlv) 61) → ¬ SY Xl Xp' db g m x1 → Fm (SY Xl Xp db g m) w w2 → F'[i]? = some x → s.fetch n pick = (s', x.1.pg, 0) →
      Cl Tryz.prog 107 [.pointer (some ⟨fb, i * 8, none⟩)] w2 fun t71 w_66 => St 6 w_66 (pv x1) t71 fun u_8 w_9 => RetO (resL Tryz.prog (fun j => bif Nat.beq j 6 then pv x1 else bif Nat.beq j 7 then iv 0 else undef) w_9 [(ResultVar.cell 6 61), (ResultVar.tmp 7)]) w_9 (fun v w' => ∃ u, v = .tuple #[.agg (pcs (s.fetch n pick).2.1 u), iv (s.fetch n pick).2.2] ∧ PgOw w' w.heap.size (pcs (s.fetch n pick).2.1 u) (s.fetch n pick).2.1 ∧
    (∃ Xp' Q' F', SI w' Xl Xp' Q' pb lb db g m fb ob F' (s.fetch n pick).1 ∧ (∀ y, Xp' y → Xp y ∨ w.heap.size ≤ y) ∧ ∀ k, u.ownBlock = some k → ¬ Xp' k) ∧ Fm (SY Xl Xp db g m) w w') := by
    intro w2 Xp' Q' F' s' i x h2 hX hw2 hno hF hx he
    rw [he]
    refine (pfresh_spec h2.hP hx).mono ?_
    rintro _ w3 ⟨cs, rfl, ho, hf3⟩
    obtain ⟨u, rfl, hou⟩ := ho.ex
    have hul := own_lt hou
    have h3 := h2.keep0 hf3
    have z2 := hF.size
    have hx1l := lt_of_heap hw2
    refine St_all (hf3.heap hw2 (fun e => e)) rfl rfl (pcs_one (own_one hou)) ?_
    intro w4 hw4 hs4 hf4
    refine retPf hw4 rfl ⟨u, rfl, ⟨⟨u, rfl, own_base (own_keep hou hf4 (fun k hk _ _ e => by omega)) z2⟩, ho.small, ho.ins⟩, ⟨Xp', Q', F', h3.keep hf4 (by rintro y hy rfl; exact hno hy), hX, fun k hk e => ?_⟩, (SY_trans hF (SY_of hf3)).trans hf4 (fun _ _ e => e) (by rintro y hy rfl; omega)⟩
    have := (hul k hk).1
    have := h2.lt k (.inr (.inl e))
    omega
  have hnx : ¬ SY Xl Xp db g m x1 := fun e => by have := hlt _ e; omega
  refine (pknown_spec h1.hP n).mono ?_
  rintro _ w1 ⟨rfl, rfl⟩
  simp only [RS0, RS1, RS2, RS3, RS4, RS5, bne_dec]
  cases hk : decide (s.p.known n = 0) with
  | false =>
    rw [hk, cond_false] at hfetch
    simp only [RS0, RS1, RS2, RS3, RS4, RS5]
    refine RunS_ok (bld24z _) ?_
    exact bad h1 (fun y e => .inl e) hw1 hnx (SY_of hf1) _ hfetch
  | true =>
    rw [hk, cond_true] at hfetch
    rw [decide_eq_true_eq] at hk
    have hrange := known_range hk
    have hpg := h.wf.pg
    simp only [RS0, RS1, RS2, RS3, RS4, RS5]
    refine (pholds_spec h1.hP hfl.2 n).mono ?_
    rintro _ w1 ⟨rfl, rfl⟩
    cases hh : s.p.hold n with
    | some i =>
      rw [hh] at hfetch
      obtain ⟨f, hf, _⟩ := Pl.hold_some hh
      rw [← h.hP.fs, List.getElem?_map, Option.map_eq_some_iff] at hf
      obtain ⟨x, hx, rfl⟩ := hf
      simp only [(h.hP.frg hx).2] at hfetch
      simp only [holdV]
      simp only [RS0, RS1, RS2, RS3, RS4, RS5]
      exact good h1 (fun y e => .inl e) hw1 hnx (SY_of hf1) hx hfetch
    | none =>
      rw [hh] at hfetch
      simp only at hfetch
      simp only [holdV]
      have hfd := Fm.drew (fun _ => False) w1
      have e1 : IntKind.i64.wrap (8 * n) = 8 * n := by rw [wrap_id]; omega
      have e2 : IntKind.i64.wrap ((s.p.frm : Int) + 8 * n) = (s.p.frm : Int) + 8 * n := by rw [wrap_id]; omega
      have h2 := h1.keep0 hfd
      have hw2 := hfd.heap hw1 (fun e => e)
      have hF2 := Fmf hf1 hfd
      have hle := read_le h.hD.wf ((s.p.frm : Int) + 8 * n) 8
      have hraw : s.raw n = s.d.read ((s.p.frm : Int) + 8 * n) 8 := rfl
      simp only [RS0, RS1, RS2, RS3, RS4, RS5, h1.hP.c0, h1.hP.c2, true_and, e1, e2]
      refine (dread_spec h2.hD ((s.p.frm : Int) + 8 * n) 8).mono ?_
      rintro _ w2 ⟨rfl, rfl⟩
      rw [← hraw] at hle ⊢
      generalize s.raw n = r at hfetch hle
      obtain ⟨rs, re⟩ := r
      simp only at hfetch hle
      simp only [RS0, RS1, RS2, RS3, RS4, RS5, bne_dec]
      cases hr : decide (re = 0) with
      | false =>
        rw [hr, cond_false] at hfetch
        simp only [RS0, RS1, RS2, RS3, RS4, RS5]
        refine RunS_ok (bld24z _) ?_
        exact bad h2 (fun y e => .inl e) hw2 hnx (SY_of hF2) _ hfetch
      | true =>
        rw [hr, cond_true] at hfetch
        simp only [RS0, RS1, RS2, RS3, RS4, RS5]
        refine (decode_spec _ rs (by omega)).mono ?_
        rintro _ w3 ⟨cs, rfl, ho3, hf3⟩
        generalize pDec rs = pd at hfetch ho3
        obtain ⟨pg, pe⟩ := pd
        simp only at hfetch ho3
        obtain ⟨v3, rfl, hou3⟩ := ho3.ex
        obtain ⟨a3, j3, c3, rfl⟩ := cells_sl (CellsAt.of_own hou3)
        have hF3 := Fmf hF2 hf3
        have h3 := h2.keep0 hf3
        have hw3 := hf3.heap hw2 (fun e => e)
        simp only [RS0, RS1, RS2, RS3, RS4, RS5]
        refine New_any ?_
        intro x4 w4 hx4 hs4 hw4 hf4
        refine St_all hw4 rfl rfl (pcs_one rfl) ?_
        intro w5 hw5 hs5 hf5
        have hF5 : Fm (fun _ => False) w3 w5 := Fm.own hf4 hf5 (by rintro y rfl; omega)
        have hF05 := Fmf hF3 hF5
        have h5 := h3.keep0 hF5
        have hw15 := hF5.heap hw3 (fun e => e)
        have ho5 := ho3.keep hF5
        have hul3 := own_lt hou3
        have z1 := hf1.size; have z2 := hF2.size; have z3 := hF3.size; have z5 := hF05.size
        simp only [RS0, RS1, RS2, RS3, RS4, RS5, bne_dec]
        cases hp : decide (pe = 0) with
        | false =>
          rw [hp, cond_false] at hfetch
          simp only [RS0, RS1, RS2, RS3, RS4, RS5]
          refine RunS_ok (bld24z _) ?_
          exact bad h5 (fun y e => .inl e) hw15 hnx (SY_of hF05) _ hfetch
        | true =>
          rw [hp, cond_true] at hfetch
          simp only [RS0, RS1, RS2, RS3, RS4, RS5]
          refine (ptake_spec h5 pick).mono ?_
          rintro _ w6 ⟨F6, h6, hF6, hcase⟩
          have hw16 := hF6.heap hw15 hnx
          have hF06 := SY_trans (SY_of hF05) hF6
          have z6 := hF6.size
          rcases hcase with ⟨q1, rfl⟩ | ⟨q1, rfl, q2⟩
          · rw [decide_eq_false q1, cond_false] at hfetch
            simp only [RS0, RS1, RS2, RS3, RS4, RS5, bne_dec, decide_eq_false q1]
            refine RunS_ok (bld24z _) ?_
            exact bad h6 (fun y e => .inl e) hw16 hnx hF06 _ hfetch
          · rw [q1, decide_eq_true rfl, cond_true] at hfetch
            have hnx4 : ¬ SY Xl Xp db g m x4 := fun e => by have := hlt _ e; omega
            have hw46 := hF6.heap hw5 hnx4
            simp only [RS0, RS1, RS2, RS3, RS4, RS5, bne_dec, decide_true, cellsV_blk hw46 (show (pcs pg (Value.slice a3 j3 c3)).size = 6 from rfl)]
            refine RunS_ok (bldFr1 _ _ _ _ _ _) ?_
            try simp only [RS0, RS1, RS2, RS3, RS4, RS5]
            have hdis : ∀ k, (Value.slice a3 j3 c3).ownBlock = some k → ¬ SY Xl Xp db g m k := fun k hk e => by
              have := hlt _ e
              have := (hul3 k hk).1
              have := hF2.size
              have : w1.drew.heap.size = w1.heap.size := rfl
              omega
            refine St_frame h6.hP q2 (⟨pg, n, false⟩, .slice a3 j3 c3) rfl ?_
            intro w7 hw7 hs7 hf7
            have hfb : fb ≠ x1 := fun e => hnx (by rw [← e]; exact .inr (.inl h6.hP.xs.2.1))
            have ho6 : w6.ownsRow w.heap.size 9 1 (.slice a3 j3 c3) pg.items.length (pg.items.map stv) := by
              obtain ⟨v5, e5, ho5'⟩ := ho5.ex
              rw [← pcs_inj e5] at ho5'
              exact own_base (own_keep ho5' hF6 (fun k _ _ hk => hdis k hk)) z2
            have ho7 : w7.ownsRow w.heap.size 9 1 (.slice a3 j3 c3) pg.items.length (pg.items.map stv) := own_keep ho6 hf7 (fun k _ _ hk e => hdis k hk (by rw [e]; exact .inr (.inl h6.hP.xs.2.1)))
            have hheld : HeldP w7 (fun y => Q y ∨ (Value.slice a3 j3 c3).ownBlock = some y) (.slice a3 j3 c3) pg := HeldP.of_own (b := w.heap.size) ⟨⟨_, rfl, ho7⟩, ho3.small, ho3.ins⟩ (fun y hy => .inr hy)
            have h7 := h6.lay (x := (⟨pg, n, false⟩, .slice a3 j3 c3)) hf7 (fun y e => .inl e) hw7 hheld (fun y e => .inl e) (fun y e => by
              rcases e with e | e
              · exact .inl e
              · exact .inr ⟨hdis y e, (own_lt ho7 y e).2⟩) (.inr ⟨hrange.1, by rw [(take_len s pick).1]; exact hrange.2⟩)
            refine good h7 (fun y e => ?_) (hf7.heap hw16 (fun e => hfb e.symm)) (fun e => ?_) (hF06.trans hf7 (fun _ _ e => e) (by rintro y _ rfl; exact .inr (.inl h6.hP.xs.2.1))) (i := (s.take pick).2.1) (x := (⟨pg, n, false⟩, .slice a3 j3 c3)) (by rw [List.getElem?_set, if_pos rfl, if_pos q2]) hfetch
            · rcases e with e | e | e
              · exact .inl e
              · exact .inl (h6.hP.xs.2.2.2 y e)
              · exact .inr (own_lt ho7 y e).1
            · rcases e with e | (e | e | e) | e
              · exact hnx (.inl e)
              · exact hnx (.inr (.inl e))
              · exact hnx (.inr (.inl (h6.hP.xs.2.2.2 _ e)))
              · have := (hul3 _ e).1
                have : w1.drew.heap.size = w1.heap.size := rfl
                omega
              · exact hnx (.inr (.inr e))
set_option maxHeartbeats 4000000 in
theorem pset_spec (h : SI w Xl Xp Q pb lb db g m fb ob F s) {cs : Array Value} {b : Pg} (hb : ∀ w', Fm (SY Xl Xp db g m) w w' → PgAs w' cs b) (n pick : Int) : Cl Tryz.prog 32 [pv pb, iv n, .agg cs, iv pick] w fun v w' => v = iv (s.set n b pick).2 ∧
    (∃ Xp' Q' F', SI w' Xl Xp' Q' pb lb db g m fb ob F' (s.set n b pick).1 ∧ ∀ y, Xp' y → Xp y ∨ w.heap.size ≤ y) ∧ Fm (SY Xl Xp db g m) w w' := by
  have hfl := h.flen
  have hlt := h.lt
  obtain ⟨a0, j0, c0, hcs⟩ := (hb w (Fm.refl _ _)).sl
  subst hcs
  have hset : s.set n b pick = bif decide (s.p.known n = 0) then (bif decide ((pEnc b).2 = 0) then (bif decide (b.lsn < 1) then (s, 1) else (match s.p.hold n with
      | some i => (s.own i n b, 0)
      | none => bif decide ((s.take pick).2.2 = 0) then ((s.take pick).1.own (s.take pick).2.1 n b, 0) else ((s.take pick).1, (s.take pick).2.2))) else (s, (pEnc b).2)) else (s, s.p.known n) := rfl
  refine c32 ?_; unfold T32
  refine New_any ?_
  intro x1 w1 hx1 hs1 hw1 hf1
  have h1 := h.keep0 hf1
  have hnx : ¬ SY Xl Xp db g m x1 := fun e => by have := hlt _ e; omega
  have same : ∀ {w2 : World} {s' : PS} {F' : List PV} {e : Int}, SI w2 Xl Xp Q pb lb db g m fb ob F' s' → Fm (SY Xl Xp db g m) w w2 → s.set n b pick = (s', e) → iv e = iv (s.set n b pick).2 ∧ (∃ Xp' Q' F', SI w2 Xl Xp' Q' pb lb db g m fb ob F' (s.set n b pick).1 ∧ ∀ y, Xp' y → Xp y ∨ w.heap.size ≤ y) ∧ Fm (SY Xl Xp db g m) w w2 := by
    intro w2 s' F' e h2 hF he
    rw [he]
    exact ⟨rfl, ⟨Xp, Q, F', h2, fun y e => .inl e⟩, hF⟩
  refine (pknown_spec h1.hP n).mono ?_
  rintro _ w1 ⟨rfl, rfl⟩
  simp only [RS0, RS1, RS2, RS3, RS4, RS5, bne_dec]
  cases hk : decide (s.p.known n = 0) with
  | false =>
    rw [hk, cond_false] at hset
    simp only [RS0, RS1, RS2, RS3, RS4, RS5]
    exact same h1 (SY_of hf1) hset
  | true =>
  rw [hk, cond_true] at hset
  rw [decide_eq_true_eq] at hk
  have hrange := known_range hk
  have hpg := h.wf.pg
  have hb1 := hb w1 (SY_of hf1)
  simp only [RS0, RS1, RS2, RS3, RS4, RS5, cellsV_blk hw1 (show (Value.cells (Value.agg (pcs b (Value.slice a0 j0 c0)))).size = 6 from rfl)]
  refine (encode_spec hb1).mono ?_
  rintro _ w2 ⟨rfl, hf2⟩
  rw [encR_eq]
  have h2 := h1.keep0 hf2
  have hF2 := Fmf hf1 hf2
  have hw2 := hf2.heap hw1 (fun e => e)
  have c0' : w2.cell? ⟨x1, 0, none⟩ = some (iv b.lsn) := by rw [cell_at hw2]; rfl
  simp only [RS0, RS1, RS2, RS3, RS4, RS5, bne_dec]
  cases he : decide ((pEnc b).2 = 0) with
  | false =>
    rw [he, cond_false] at hset
    simp only [RS0, RS1, RS2, RS3, RS4, RS5]
    exact same h2 (SY_of hF2) hset
  | true =>
  rw [he, cond_true] at hset
  simp only [RS0, RS1, RS2, RS3, RS4, RS5, c0']
  cases hl : decide (b.lsn < 1) with
  | true =>
    rw [hl, cond_true] at hset
    simp only [RS0, RS1, RS2, RS3, RS4, RS5]
    exact same h2 (SY_of hF2) hset
  | false =>
  rw [hl, cond_false] at hset
  simp only [RS0, RS1, RS2, RS3, RS4, RS5]
  refine (pholds_spec h2.hP hfl.2 n).mono ?_
  rintro _ w2 ⟨rfl, rfl⟩
  refine Jn_at (fun vs w' => ∃ (i : Nat) (s1 : PS) (F1 : List PV), vs = [.pointer (some ⟨fb, i * 8, none⟩)] ∧ i < F1.length ∧ SI w' Xl Xp Q pb lb db g m fb ob F1 s1 ∧ s1.p.pages = s.p.pages ∧ Fm (SY Xl Xp db g m) w w' ∧ w'.heap[x1]? = some (.cells (pcs b (.slice a0 j0 c0)) 61) ∧ s.set n b pick = (s1.own i n b, 0)) ?_ ?_
  · rintro _ w3 ⟨i, s1, F1, rfl, hi, h3, hpgs, hF3, hw3, he3⟩ _
    refine ⟨_, rfl, ?_⟩
    rw [he3]
    clear hset same
    have hb3 := hb w3 hF3
    simp only [RS0, RS1, RS2, RS3, RS4, RS5, cellsV_blk hw3 (show (pcs b (Value.slice a0 j0 c0)).size = 6 from rfl)]
    refine RunS_ok (bldFr2 _ _ _ _ _ _) ?_
    try simp only [RS0, RS1, RS2, RS3, RS4, RS5]
    refine St_frame h3.hP hi (⟨b, n, true⟩, .slice a0 j0 c0) rfl ?_
    intro w4 hw4 hs4 hf4
    have hfbx : fb ≠ x1 := fun e => hnx (by rw [← e]; exact .inr (.inl h3.hP.xs.2.1))
    have hw14 := hf4.heap hw3 (fun e => hfbx e.symm)
    have c5 : w4.cell? ⟨x1, 5, none⟩ = some (.slice a0 j0 c0) := by rw [cell_at hw14]; rfl
    have hfbY : ∀ y, y = fb → SY Xl Xp db g m y := by rintro y rfl; exact .inr (.inl h3.hP.xs.2.1)
    have hF4 : Fm (SY Xl Xp db g m) w w4 := hF3.trans hf4 (fun _ _ e => e) (fun y _ e => hfbY y e)
    have hb4 := hb w4 hF4
    obtain ⟨v0, hv0, v1, v2⟩ := hb4.ex
    obtain rfl := pcs_inj hv0
    simp only [RS0, RS1, RS2, RS3, RS4, RS5, c5]
    refine (clone_spec v2 hb4.ins.2.2.2.2.2).mono ?_
    rintro r w5 ⟨ho5, hf5⟩
    have hr1 := own_one ho5
    have hrl := own_lt ho5
    try simp only [RS0, RS1, RS2, RS3, RS4, RS5]
    refine St_blk (hf5.heap hw4 (fun e => e)) (j := i * 8 + 5) (by rw [List.size_toArray, flat_len frC_len, List.length_set]; omega) hr1 ?_
    intro w6 hw6 hs6 hf6
    have hx' : (F1.set i ((⟨b, n, true⟩, .slice a0 j0 c0) : PV))[i]? = some ((⟨b, n, true⟩, .slice a0 j0 c0) : PV) := by rw [List.getElem?_set, if_pos rfl, if_pos hi]
    have hset1 := flat_set1 frC_len (y := ((⟨b, n, true⟩, r) : PV)) (u := r) hx' (j := 5) (by omega) rfl
    rw [List.setIfInBounds_toArray, ← hset1, List.set_set] at hw6
    have hf36 : Fm (fun y => y = fb) w3 w6 := (hf4.trans hf5 (fun _ _ e => e) (fun _ _ e => e.elim)).trans hf6 (fun _ _ e => e) (fun _ _ e => e)
    have hF6 : Fm (SY Xl Xp db g m) w w6 := hF3.trans hf36 (fun _ _ e => e) (fun y _ e => hfbY y e)
    have z3 := hF3.size; have z4 := hf4.size; have z5 := hf5.size
    have hlt3 := h3.lt
    have hfb3 := hlt3 fb (hfbY fb rfl)
    have hrn : ∀ k, r.ownBlock = some k → ¬ SY Xl Xp db g m k := fun k hk e => by
      have := hlt3 k e
      have := (hrl k hk).1
      omega
    have ho6 : w6.ownsRow w4.heap.size 9 1 r b.items.length (b.items.map stv) := own_keep ho5 hf6 (fun k hk _ _ e => by omega)
    have hheld : HeldP w6 (fun y => Q y ∨ r.ownBlock = some y) r b := HeldP.of_own (b := w4.heap.size) ⟨⟨_, rfl, ho6⟩, hb4.small, hb4.ins⟩ (fun y hy => .inr hy)
    have h6 := h3.lay (x := (⟨b, n, true⟩, r)) hf36 (fun y e => .inl e) hw6 hheld (fun y e => .inl e) (fun y e => by
      rcases e with e | e
      · exact .inl e
      · exact .inr ⟨hrn y e, (own_lt ho6 y e).2⟩) (.inr ⟨hrange.1, by rw [hpgs]; exact hrange.2⟩)
    have hXp : ∀ y, (Xp y ∨ (Q y ∨ r.ownBlock = some y)) → Xp y ∨ w.heap.size ≤ y := fun y e => by
      rcases e with e | e | e
      · exact .inl e
      · exact .inl (h3.hP.xs.2.2.2 y e)
      · have := (hrl y e).1
        exact .inr (by omega)
    have hown : s1.own i n b = ⟨{ s1.p.lay i ⟨b, n, true⟩ with owed := bif (getD s1.p.owed n).isNone then setD s1.p.owed n b.lsn else s1.p.owed }, s1.l, s1.d⟩ := rfl
    have hw16 := hf6.heap (hf5.heap hw14 (fun e => e)) (fun e => hfbx e.symm)
    have c06 : w6.cell? ⟨x1, 0, none⟩ = some (iv b.lsn) := by rw [cell_at hw16]; rfl
    refine Jn_at (fun vs w' => vs = [] ∧ SI w' Xl (fun y => Xp y ∨ (Q y ∨ r.ownBlock = some y)) (fun y => Q y ∨ r.ownBlock = some y) pb lb db g m fb ob (F1.set i (⟨b, n, true⟩, r)) (s1.own i n b) ∧ Fm (SY Xl Xp db g m) w w') ?_ ?_
    · rintro _ w7 ⟨rfl, h7, hF7⟩ _
      exact ⟨rfl, (by trivial), ⟨_, _, _, h7, hXp⟩, hF7⟩
    intro jj hjj
    refine (powes_spec h6.hP n).mono ?_
    rintro _ w6 ⟨rfl, rfl⟩
    have hpo : (s1.lay i ⟨b, n, true⟩).p.owed = s1.p.owed := rfl
    rw [hpo]
    cases hq : (getD s1.p.owed n).isNone with
    | false =>
      simp only [RS0, RS1, RS2, RS3, RS4, RS5, Bool.not_false, Bool.not_true]
      refine hjj _ _ ⟨rfl, ?_, hF6⟩
      rw [hown, hq, cond_false]
      exact h6
    | true =>
      have hfd := Fm.drew (fun _ => False) w6
      have h7 := h6.keep0 hfd
      have hF7 := SY_trans hF6 (SY_of hfd)
      simp only [RS0, RS1, RS2, RS3, RS4, RS5, Bool.not_false, Bool.not_true, h6.hP.c5, c06, true_and]
      obtain ⟨w8, hr8, hm8, hf8, hs8⟩ := update_run K146 h7.hP.mp n b.lsn
      refine RunU_ok hr8 ?_
      have hobX := h7.hP.xs.2.2.1
      have hne : ∀ y, (Xp y ∨ (Q y ∨ r.ownBlock = some y)) → y ≠ ob → ¬ y = ob := fun y _ e => e
      refine hjj _ _ ⟨rfl, ?_, hF7.trans hf8 (fun _ _ e => e) (by rintro y _ rfl; exact .inr (.inl h3.hP.xs.2.2.1))⟩
      rw [hown, hq, cond_true]
      refine ⟨h7.hL.keep hf8 (by rintro y hy rfl; exact h7.lp _ hy hobX), h7.hD.keep hf8 (by rintro rfl; exact h7.pd.1 hobX) (by rintro rfl; exact h7.pd.2.1 hobX) (by rintro rfl; exact h7.pd.2.2 hobX), ⟨hf8.heap h7.hP.st h7.hP.po, hf8.heap h7.hP.fr h7.hP.fo, hm8, h7.hP.fs, fun x hx => (h7.hP.it x hx).keep hf8 (by rintro y hy rfl; exact h7.hP.qs.2.2 hy), h7.hP.xs, h7.hP.qs, fun y hy => Nat.lt_of_lt_of_le (h7.hP.lt y hy) hf8.size⟩, h7.wf.of_fr rfl rfl rfl, h7.lp, h7.ld, h7.pd⟩
  intro jj hjj
  have hF2' : Fm (SY Xl Xp db g m) w w2 := SY_of hF2
  cases hh : s.p.hold n with
  | some i =>
    rw [hh] at hset
    obtain ⟨f, hf, _⟩ := Pl.hold_some hh
    have hil := (List.getElem?_eq_some_iff.1 hf).1
    rw [← h.hP.len] at hil
    simp only [holdV]
    simp only [RS0, RS1, RS2, RS3, RS4, RS5]
    exact hjj _ _ ⟨i, s, F, rfl, hil, h2, rfl, hF2', hw2, hset⟩
  | none =>
    rw [hh] at hset
    simp only at hset
    simp only [holdV]
    simp only [RS0, RS1, RS2, RS3, RS4, RS5]
    refine (ptake_spec h2 pick).mono ?_
    rintro _ w3 ⟨F3, h3, hF3, hcase⟩
    have hF3' := SY_trans hF2' hF3
    rcases hcase with ⟨q1, rfl⟩ | ⟨q1, rfl, q2⟩
    · rw [decide_eq_false q1, cond_false] at hset
      simp only [RS0, RS1, RS2, RS3, RS4, RS5, bne_dec, decide_eq_false q1]
      exact same h3 hF3' hset
    · rw [q1, decide_eq_true rfl, cond_true] at hset
      simp only [RS0, RS1, RS2, RS3, RS4, RS5, bne_dec, decide_true]
      exact hjj _ _ ⟨_, _, F3, rfl, q2, h3, (take_len s pick).1, hF3', hF3.heap hw2 hnx, hset⟩
theorem pwrite_spec (h : SI w Xl Xp Q pb lb db g m fb ob F s) (n : Int) : Cl Tryz.prog 37 [pv pb, iv n] w fun v w' => v = iv (s.write n).2 ∧ (∃ F', SI w' Xl Xp Q pb lb db g m fb ob F' (s.write n).1) ∧ Fm (SY Xl Xp db g m) w w' := by
  have hfl := h.flen
  unfold PS.write
  refine c37 ?_; unfold T37
  refine (pknown_spec h.hP n).mono ?_
  rintro _ w1 ⟨rfl, rfl⟩
  simp only [RS0, RS1, RS2, RS3, RS4, RS5, bne_dec]
  cases hk : decide (s.p.known n = 0) with
  | false =>
    simp only [RS0, RS1, RS2, RS3, RS4, RS5, cond_false]
    exact ⟨(by trivial), ⟨F, h⟩, Fm.refl _ _⟩
  | true =>
    simp only [RS0, RS1, RS2, RS3, RS4, RS5, cond_true]
    refine (pholds_spec h.hP hfl.2 n).mono ?_
    rintro _ w1 ⟨rfl, rfl⟩
    cases hh : s.p.hold n with
    | none =>
      simp only [holdV]
      simp only [RS0, RS1, RS2, RS3, RS4, RS5]
      exact ⟨(by trivial), ⟨F, h⟩, Fm.refl _ _⟩
    | some i =>
      obtain ⟨f, hf, _⟩ := Pl.hold_some hh
      rw [← h.hP.fs, List.getElem?_map, Option.map_eq_some_iff] at hf
      obtain ⟨x, hx, rfl⟩ := hf
      simp only [holdV, (h.hP.frg hx).2]
      simp only [RS0, RS1, RS2, RS3, RS4, RS5, h.hP.f7 hx]
      cases hc : x.1.chg with
      | false =>
        simp only [RS0, RS1, RS2, RS3, RS4, RS5, cond_false]
        exact ⟨(by trivial), ⟨F, h⟩, Fm.refl _ _⟩
      | true =>
        simp only [RS0, RS1, RS2, RS3, RS4, RS5, cond_true]
        refine (pwrite1_spec h hx).mono ?_
        rintro _ w3 ⟨rfl, h3, hF3⟩
        exact ⟨(by trivial), h3, hF3⟩
end
end Go.Proofs.YthbngnlmgplijaaGreatDoor

namespace Go.Proofs.YthbngnlmgplijaaGreatDoor
open Go.Al Go.Proofs
set_option linter.unusedVariables false
set_option linter.unusedSimpArgs false
set_option linter.unusedSectionVars false
set_option maxRecDepth 100000

theorem sum_iff {d : Bs} (h : d.length = 512) : decide (((ofN (d.take 4) : Nat) : Int) = ((crc (d.drop 4) : Nat) : Int)) = decide (beN 4 (crc (d.drop 4)) = d.take 4) := by
  have hl : (d.take 4).length = 4 := by rw [List.length_take]; omega
  have hc := crc_lt (d.drop 4)
  rw [ofN_short (by omega), decide_eq_decide]
  constructor
  · intro e
    have e : ofB (d.take 4) = crc (d.drop 4) := by omega
    rw [← e]; exact beN_ofB 4 _ hl
  · intro e
    rw [← e, ofB_beN, Nat.mod_eq_of_lt (by omega)]
theorem again_iff {d : Bs} (h : d.length = 512) (h2 : beN 4 (crc (d.drop 4)) = d.take 4) {l : List Bs} {t : Bs} (h3 : pItems (dMany d) (dRest d) = some (l, t)) :
    pDec d = bif !decide (pErr (headP d l) = 0) || !decide ((pEnc (headP d l)).1 = d) then (pg0, 31) else (headP d l, 0) := by
  have hs := pDec_some h h2 h3
  cases hb : badD d t with
  | false =>
    rw [hb, cond_false] at hs
    have := enc_dec (d := d) (by rw [hs])
    rw [hs] at this
    simp only at this
    rw [hs, this.1, this.2.1]
    simp
  | true =>
    rw [hb, cond_true] at hs
    rw [hs]
    by_cases h4 : pErr (headP d l) = 0
    · by_cases h5 : (pEnc (headP d l)).1 = d
      · have h6 := dec_enc h4 (by unfold headP; simp only; omega)
        rw [h5, hs] at h6
        have := congrArg Prod.snd h6
        simp at this
      · rw [show decide ((pEnc (headP d l)).1 = d) = false by simpa using h5]; simp
    · rw [show decide (pErr (headP d l) = 0) = false by simpa using h4]; simp

set_option maxHeartbeats 8000000 in
theorem rdecode_spec (w : World) (d : Bs) (hd : d.length ≤ 9223372036854775806) : Cl Tryz.prog 127 [stv d] w fun r w' => ∃ cs, r = .tuple #[.agg cs, iv (pDec d).2] ∧ PgOw w' w.heap.size cs (pDec d).1 ∧ Fm (fun _ => False) w w' := by
  refine c127 ?_; unfold T127
  refine New_any ?_
  intro x2 w1 hx2 hs1 hw1 hf1
  have ret : ∀ (e : Int) (f : Fr), f 2 = pv x2 → f 3 = iv e → pDec d = (pg0, e) → 
      ((∀ w'' : World, w''.heap[x2]? = some (.cells (pcs pg0 (.slice none 0 0)) 61) → Fm (fun _ => False) w w'' → RetO (resL Tryz.prog f w'' [.cell 2 61, .tmp 3]) w'' (fun r w' => ∃ cs, r = .tuple #[.agg cs, iv (pDec d).2] ∧ PgOw w' w.heap.size cs (pDec d).1 ∧ Fm (fun _ => False) w w'))) := by
    intro e f h4 h5 h6 w'' h7 h8
    refine retPg (u := iv e) h7 rfl h4 h5 _ ?_
    rw [h6]
    exact ⟨_, rfl, PgOw.zero _ _, h8⟩
  have zone : ∀ u ∈ (pcs pg0 (.slice none 0 0)).toList, u.oneCell' = true := by intro u hu; simp [pcs] at hu; rcases hu with rfl | rfl | rfl | rfl | rfl | rfl <;> rfl
  have d0 : decide ((d.length : Int) = 512) = decide (d.length = 512) := by rw [decide_eq_decide]; omega
  simp only [RS0, RS1, RS2, RS3, RS4, RS5, str_size, bne_dec, d0]
  cases h0 : decide (d.length = 512) with
  | false =>
    have hne : d.length ≠ 512 := by simpa using h0
    simp only [RS0, RS1, RS2, RS3, RS4, RS5]
    refine RunS_ok (bld24z _) ?_
    refine St_all hw1 rfl rfl zone ?_
    intro w2 hw2 hs2 hf2
    exact ret 31 _ rfl rfl (pDec_len hne) w2 hw2 (Fm.own hf1 hf2 (by rintro y rfl; omega))
  | true =>
  have h512 : d.length = 512 := by simpa using h0
  have s1 : slS (stv d) (some (Value.int .i64 4)) none = some (stv (d.drop 4)) := slS_lo (i := 4) (by omega) .i64
  have s2 : slS (stv d) none (some (Value.int .i64 4)) = some (stv (d.take 4)) := slS_hi (i := 4) (by omega) .i64
  have hf2 := Fm.drew (fun _ => False) w1
  have hx2' : w1.drew.heap[x2]? = some (.cells #[iv 0, iv 0, iv 0, iv 0, stv [], .slice none 0 0] 61) := hw1
  have hF2 := Fmf hf1 hf2
  simp only [RS0, RS1, RS2, RS3, RS4, RS5, s1, s2]
  generalize w1.drew = w2 at hf2 hx2' hF2
  refine (rof_spec w2 (d.take 4) (by rw [List.length_take]; omega)).mono ?_
  rintro _ w2 ⟨rfl, rfl⟩
  refine (rsum_spec w2 (d.drop 4) (by rw [List.length_drop]; omega)).mono ?_
  rintro _ w3 ⟨rfl, rfl⟩
  obtain ⟨q1, q2⟩ := crc_in (d.drop 4)
  simp only [RS0, RS1, RS2, RS3, RS4, RS5, cvI_int, q2, bne_dec, sum_iff h512]
  cases hsum : decide (beN 4 (crc (d.drop 4)) = d.take 4) with
  | false =>
    have hne : beN 4 (crc (d.drop 4)) ≠ d.take 4 := by simpa using hsum
    simp only [RS0, RS1, RS2, RS3, RS4, RS5]
    refine RunS_ok (bld24z _) ?_
    refine St_all hx2' rfl rfl zone ?_
    intro w4 hw4 hs4 hf4
    exact ret 30 _ rfl rfl (pDec_sum h512 hne) w4 hw4 (Fm.own hF2 hf4 (by rintro y rfl; omega))
  | true =>
  have hse : beN 4 (crc (d.drop 4)) = d.take 4 := by simpa using hsum
  simp only [RS0, RS1, RS2, RS3, RS4, RS5]
  have hx2s : x2 = w.heap.size := hx2
  refine Jn_at (fun vs w4 => ∃ g4, vs = [pv g4] ∧ PB w4 g4 ⟨(dLsn d % 2 ^ 63 : Nat), dKind d, dLevel d, dRight d, [], []⟩ (.slice none 0 0) ∧ g4 ≠ x2 ∧ w.heap.size ≤ g4 ∧ w4.heap[x2]? = some (.cells #[iv 0, iv 0, iv 0, iv 0, stv [], .slice none 0 0] 61) ∧ Fm (fun _ => False) w w4) ?_ ?_
  · rintro _ w4 ⟨g4, rfl, hP4, hne4, hge4, hx4, hF4⟩ _
    refine ⟨_, rfl, ?_⟩
    have i19 : ixS (stv d) (Value.int .i64 19) = some (.int .u8 ((dHl d : Nat))) := ixS_getD (k := 19) (by omega)
    have i18 : ixS (stv d) (Value.int .i64 18) = some (.int .u8 ((dMany d : Nat))) := ixS_getD (k := 18) (by omega)
    have c19 : IntKind.i64.wrap (dHl d : Nat) = ((dHl d : Nat) : Int) := u8_i64 _
    have c18 : IntKind.i64.wrap (dMany d : Nat) = ((dMany d : Nat) : Int) := u8_i64 _
    have hhl : dHl d < 256 := UInt8.toNat_lt _
    have hmy : dMany d < 256 := UInt8.toNat_lt _
    have e0 : IntKind.i64.wrap (20 + (dHl d : Int)) = ((20 + dHl d : Nat) : Int) := by rw [wrap_id] <;> omega
    have s3 : slS (stv d) (some (Value.int .i64 20)) (some (Value.int .i64 ((20 + dHl d : Nat) : Int))) = some (stv (dHigh d)) := by
      have := slS_lh (l := d) (i := 20) (j := 20 + dHl d) (by omega) (by omega) .i64 .i64
      rw [show 20 + dHl d - 20 = dHl d by omega] at this; exact this
    have hg4l := hP4.lt
    have hz4 := hF4.size
    have hx2l := lt_of_heap hx4
    simp only [RS0, RS1, RS2, RS3, RS4, RS5, i18, cvI_int, c18, i19, c19, e0, s3]
    refine St_blk hP4 (by show 4 < 6; decide) rfl ?_
    intro w8 hw8 hs8 hf8
    replace hw8 : PB w8 g4 (headP d []) (.slice none 0 0) := hw8
    have hx8 := hf8.heap hx4 (fun e => hne4 e.symm)
    have hF8 : Fm (fun _ => False) w w8 := Fm.own hF4 hf8 (by rintro y rfl; omega)
    have hr0 : (dRest d).length = 492 - dHl d := by unfold dRest; rw [List.length_drop, List.length_drop]; omega
    have hdr0 : d.drop (20 + dHl d) = dRest d := by unfold dRest; rw [List.drop_drop]
    refine ⟨fun vs w9 => ∃ (i a : Nat) (l : List Bs) (s : Bs) (v : Value), vs = [iv a, iv i] ∧ i ≤ dMany d ∧ Mid d i l s ∧ a + s.length = 512 ∧ d.drop a = s ∧ PB w9 g4 (headP d l) v ∧ w9.ownsRow w.heap.size 9 1 v l.length (l.map stv) ∧ w9.heap[x2]? = some (.cells #[iv 0, iv 0, iv 0, iv 0, stv [], .slice none 0 0] 61) ∧ Fm (fun _ => False) w w9, fun vs _ => (dMany d - nth vs 1).toNat,
      ⟨0, 20 + dHl d, [], dRest d, _, rfl, by omega, Mid.zero h512, by omega, hdr0, hw8, World.ownsRow_nil _ _ _ _, hx8, hF8⟩, ?_⟩
    rintro _ w9 av ivv ⟨i, a, l, s, v, hvs, hi, hM, ha, hda, hP9, hO9, hx9, hF9⟩
    cases hvs
    have hll := hM.1
    have hg9 := hP9.lt
    have hx29 := lt_of_heap hx9
    have hz9 := hF9.size
    by_cases hlt : i < dMany d
    · have e1 : decide ((i : Int) < (dMany d : Int)) = true := by rw [decide_eq_true_eq]; omega
      have e2 : IntKind.i64.wrap ((i : Int) + 1) = ((i + 1 : Nat) : Int) := by rw [wrap_id] <;> omega
      have a2 : IntKind.i64.wrap ((a : Int) + 2) = ((a + 2 : Nat) : Int) := by rw [wrap_id] <;> omega
      by_cases h2 : 2 ≤ s.length
      · have e3 : decide ((512 : Int) < ((a + 2 : Nat) : Int)) = false := by rw [decide_eq_false_iff_not]; omega
        have htl : (s.take 2).length = 2 := by rw [List.length_take]; omega
        have s4 : slS (stv d) (some (Value.int .i64 (a : Int))) (some (Value.int .i64 ((a + 2 : Nat) : Int))) = some (stv (s.take 2)) := by
          have := slS_lh (l := d) (i := a) (j := a + 2) (by omega) (by omega) .i64 .i64
          rw [show a + 2 - a = 2 by omega, hda] at this; exact this
        simp only [RS0, RS1, RS2, RS3, RS4, RS5, e1, a2, e3, s4]
        refine (rof_spec w9 (s.take 2) (by omega)).mono ?_
        rintro _ w9 ⟨rfl, rfl⟩
        rw [ofN_short (by omega)]
        have hob := ofB_lt 2 (s.take 2) htl
        have hnl : (s.drop 2).length + 2 = s.length := by rw [List.length_drop]; omega
        have a3 : IntKind.i64.wrap (((a + 2 : Nat) : Int) + (ofB (s.take 2) : Nat)) = ((a + 2 + ofB (s.take 2) : Nat) : Int) := by rw [wrap_id] <;> omega
        by_cases h3 : ofB (s.take 2) ≤ (s.drop 2).length
        · have e4 : decide ((512 : Int) < ((a + 2 + ofB (s.take 2) : Nat) : Int)) = false := by rw [decide_eq_false_iff_not]; omega
          have s5 : slS (stv d) (some (Value.int .i64 ((a + 2 : Nat) : Int))) (some (Value.int .i64 ((a + 2 + ofB (s.take 2) : Nat) : Int))) = some (stv ((s.drop 2).take (ofB (s.take 2)))) := by
            have := slS_lh (l := d) (i := a + 2) (j := a + 2 + ofB (s.take 2)) (by omega) (by omega) .i64 .i64
            rw [show a + 2 + ofB (s.take 2) - (a + 2) = ofB (s.take 2) by omega, ← List.drop_drop, hda] at this; exact this
          have hM2 := hM.next hlt h2 h3
          have hs' : a + 2 + ofB (s.take 2) + ((s.drop 2).drop (ofB (s.take 2))).length = 512 := by rw [List.length_drop]; omega
          have hd' : d.drop (a + 2 + ofB (s.take 2)) = (s.drop 2).drop (ofB (s.take 2)) := by rw [← hda]; simp only [List.drop_drop]
          generalize hn : ofB (s.take 2) = n at hM2 hs' hd' s5 e4 a3
          generalize (s.drop 2).take n = it at hM2 s5
          generalize (s.drop 2).drop n = s' at hM2 hs' hd'
          have hf10 := Fm.drew (fun _ => False) w9
          have hP10 : PB w9.drew g4 (headP d l) v := hP9.keep hf10 (fun e => e)
          have hx10 : w9.drew.heap[x2]? = some (.cells #[iv 0, iv 0, iv 0, iv 0, stv [], .slice none 0 0] 61) := hx9
          have hO10 := own_keep hO9 hf10 (fun _ _ _ _ e => e)
          have hF10 := Fmf hF9 hf10
          simp only [RS0, RS1, RS2, RS3, RS4, RS5, a2, a3, e4]
          refine ⟨fun w => PB w g4 (headP d l) v, hP10, ?_⟩
          generalize w9.drew = w10 at hf10 hP10 hx10 hO10 hF10
          simp only [RS0, RS1, RS2, RS3, RS4, RS5]
          refine ⟨v, fun w6 h6 => ?_, ?_⟩
          · simp only [RS0, RS1, RS2, RS3, RS4, RS5, h6.c5]; trivial
          simp only [RS0, RS1, RS2, RS3, RS4, RS5, a2, a3, s5]
          have hz10 := hF10.size
          refine RunS_ok (bs22 it w10) ⟨hP10.keep (Fm.alloc (fun _ => False) _ _) (fun e => e), ?_⟩
          have hO11 := own_keep hO10 (Fm.alloc (fun _ => False) w10 (.cells #[stv it] 9)) (fun _ _ _ _ e => e)
          have hcw : CellsAt (w10.alloc (.cells #[stv it] 9)) (.slice (some ⟨w10.heap.size, 0, none⟩) 1 1) 1 1 [stv it] := ⟨⟨_, 1, rfl, Nat.le_refl _, by simp [maxLen], (fun e => by cases e), fun j u hj => ⟨_, rfl, by rw [add_none, Nat.zero_add, cell_at (alloc_new _ _)]; simpa using hj⟩⟩, rfl⟩
          have hf11 := Fm.alloc (fun _ => False) w10 (.cells #[stv it] 9)
          have hP11 := hP10.keep hf11 (fun e => e)
          have hx11 := hf11.heap hx10 (fun e => e)
          have hF11 := Fmf hF10 hf11
          generalize w10.alloc (.cells #[stv it] 9) = w11 at hO11 hcw hP11 hx11 hF11 hf11
          have hz11 := hF11.size
          have hg11 := hP11.lt
          obtain ⟨v12, w12, hr12, hO12, hf12⟩ := append_srcO E22 (by omega) hO11 hcw (by intro u hu; simp at hu; subst hu; rfl) 59 (by unfold maxLen; omega) (by omega) hz11
          refine RunS_ok hr12 ?_
          have hne12 : v.ownBlock ≠ some g4 := own_neB hO11 hP11 (by decide)
          have hnex : v.ownBlock ≠ some x2 := own_neB hO11 hx11 (by decide)
          have hP12 := hP11.keep hf12 (fun e => hne12 e)
          have hx12 := hf12.heap hx11 (fun e => hnex e)
          have hF12 : Fm (fun _ => False) w w12 := Fm.own hF11 hf12 (fun y hy => (own_lt hO11 y hy).1)
          have hne12' : v12.ownBlock ≠ some g4 := own_neB hO12 hP12 (by decide)
          try simp only [RS0, RS1, RS2, RS3, RS4, RS5]
          refine St_blk hP12 (by show 5 < 6; decide) (own_one hO12) ?_
          intro w13 hw13 hs13 hf13
          replace hw13 : PB w13 g4 (headP d (l ++ [it])) v12 := hw13
          simp only [RS0, RS1, RS2, RS3, RS4, RS5, a2, a3, e2]
          refine ⟨⟨i + 1, a + 2 + n, l ++ [it], s', v12, rfl, by omega, hM2, hs', hd', hw13, ?_, hf13.heap hx12 (fun e => hne4 e.symm), Fm.own hF12 hf13 (by rintro y rfl; omega)⟩, by simp only [nth_1]; omega⟩
          have : w13.ownsRow w.heap.size 9 1 v12 (l.length + 1) (l.map stv ++ [stv it]) := own_keep hO12 hf13 (fun k h1 h2 h3 e => hne12' (by rw [h3, e]))
          simpa using this
        · have e4 : decide ((512 : Int) < ((a + 2 + ofB (s.take 2) : Nat) : Int)) = true := by rw [decide_eq_true_eq]; omega
          simp only [RS0, RS1, RS2, RS3, RS4, RS5, a2, a3, e4]
          refine RunS_ok (bld24z _) ?_
          refine St_all hx9 rfl rfl zone ?_
          intro w12 hw12 hs12 hf12
          exact ret 31 _ rfl rfl (pDec_none h512 hse (hM.stop hlt (fun e => h3 e.2))) w12 hw12 (Fm.own hF9 hf12 (by rintro y rfl; omega))
      · have e3 : decide ((512 : Int) < ((a + 2 : Nat) : Int)) = true := by rw [decide_eq_true_eq]; omega
        simp only [RS0, RS1, RS2, RS3, RS4, RS5, e1, a2, e3]
        refine RunS_ok (bld24z _) ?_
        refine St_all hx9 rfl rfl zone ?_
        intro w12 hw12 hs12 hf12
        exact ret 31 _ rfl rfl (pDec_none h512 hse (hM.stop hlt (fun e => h2 e.1))) w12 hw12 (Fm.own hF9 hf12 (by rintro y rfl; omega))
    · have hie : i = dMany d := by omega
      rw [hie] at hM
      have e1 : decide ((i : Int) < (dMany d : Int)) = false := by rw [decide_eq_false_iff_not]; omega
      have hag := again_iff h512 hse hM.last
      have hAs : PgAs w9 (pcs (headP d l) v) (headP d l) := ⟨⟨v, rfl, own_one hO9, CellsAt.of_own hO9⟩, fun x hx => by have := hM.2.1 x hx; omega, headP_in h512 (by omega)⟩
      simp only [RS0, RS1, RS2, RS3, RS4, RS5, e1, hP9.all]
      refine (rencode_spec hAs).mono ?_
      rintro _ w10 ⟨rfl, hf10⟩
      have hP10 := hP9.keep hf10 (fun e => e)
      have hx10 := hf10.heap hx9 (fun e => e)
      have hF10 := Fmf hF9 hf10
      have hO10 := own_keep hO9 hf10 (fun _ _ _ _ e => e)
      have bad : pDec d = (pg0, 31) → RunS Tryz.prog (Instr.build 61 #[]) w10 (fun t93_149 w_150 =>
          St 6 w_150 (pv x2) t93_149 fun u_151 w_152 =>
          RetO (resL Tryz.prog (fun j => bif Nat.beq j 2 then pv x2 else bif Nat.beq j 3 then (Value.int IntKind.i64 31) else undef) w_152 [(ResultVar.cell 2 61), (ResultVar.tmp 3)]) w_152 (fun r w' => ∃ cs, r = .tuple #[.agg cs, iv (pDec d).2] ∧ PgOw w' w.heap.size cs (pDec d).1 ∧ Fm (fun _ => False) w w')) := by
        intro hb
        refine RunS_ok (bld24z _) ?_
        refine St_all hx10 rfl rfl zone ?_
        intro w12 hw12 hs12 hf12
        exact ret 31 _ rfl rfl hb w12 hw12 (Fm.own hF10 hf12 (by rintro y rfl; omega))
      unfold encR
      rw [pEnc_err]
      simp only [RS0, RS1, RS2, RS3, RS4, RS5, bne_dec]
      cases b1 : decide (pErr (headP d l) = 0) with
      | false =>
        rw [b1, Bool.not_false, Bool.true_or, cond_true] at hag
        simp only [RS0, RS1, RS2, RS3, RS4, RS5]
        exact bad hag
      | true =>
      rw [b1, Bool.not_true, Bool.false_or] at hag
      simp only [RS0, RS1, RS2, RS3, RS4, RS5, str_inj]
      cases b2 : decide ((pEnc (headP d l)).1 = d) with
      | false =>
        rw [b2, Bool.not_false, cond_true] at hag
        simp only [RS0, RS1, RS2, RS3, RS4, RS5]
        exact bad hag
      | true =>
      rw [b2, Bool.not_true, cond_false] at hag
      simp only [RS0, RS1, RS2, RS3, RS4, RS5, hP10.all]
      refine St_all hx10 rfl rfl (by intro u hu; simp [pcs] at hu; rcases hu with rfl | rfl | rfl | rfl | rfl | rfl <;> first | rfl | exact own_one hO10) ?_
      intro w12 hw12 hs12 hf12
      refine retPg (g := x2) (i := 2) (j := 3) (u := iv 0) hw12 rfl rfl rfl _ ?_
      have hnex : v.ownBlock ≠ some x2 := own_neB hO10 hx10 (by decide)
      rw [hag]
      refine ⟨_, rfl, ⟨⟨v, rfl, own_keep hO10 hf12 (fun k h1 h2 h3 e => hnex (by rw [h3, e]))⟩, fun x hx => by have := hM.2.1 x hx; omega, headP_in h512 (by omega)⟩, Fm.own hF10 hf12 (by rintro y rfl; omega)⟩
  · intro jj hjj
    have s4 : slS (stv d) (some (Value.int .i64 4)) (some (Value.int .i64 12)) = some (stv ((d.drop 4).take 8)) := slS_lh (i := 4) (j := 12) (by omega) (by omega) .i64 .i64
    have s5 : slS (stv d) (some (Value.int .i64 14)) (some (Value.int .i64 18)) = some (stv ((d.drop 14).take 4)) := slS_lh (i := 14) (j := 18) (by omega) (by omega) .i64 .i64
    have i12 : ixS (stv d) (Value.int .i64 12) = some (.int .u8 ((dKind d : Nat))) := ixS_getD (k := 12) (by omega)
    have i13 : ixS (stv d) (Value.int .i64 13) = some (.int .u8 ((dLevel d : Nat))) := ixS_getD (k := 13) (by omega)
    have c12 : IntKind.i64.wrap (dKind d : Nat) = ((dKind d : Nat) : Int) := u8_i64 _
    have c13 : IntKind.i64.wrap (dLevel d : Nat) = ((dLevel d : Nat) : Int) := u8_i64 _
    have o1 : ofN ((d.drop 4).take 8) = dLsn d % 2 ^ 63 := rfl
    have o2 : ofN ((d.drop 14).take 4) = dRight d := ofN_short (by rw [List.length_take]; omega)
    have l1 : ((d.drop 4).take 8).length ≤ 9223372036854775806 := by rw [List.length_take]; omega
    have l2 : ((d.drop 14).take 4).length ≤ 9223372036854775806 := by rw [List.length_take]; omega
    have hf4 := Fm.drew (fun _ => False) w3
    have hx4 : w3.drew.heap[x2]? = some (.cells #[iv 0, iv 0, iv 0, iv 0, stv [], .slice none 0 0] 61) := hx2'
    have hF4 := Fmf hF2 hf4
    have hz4 := hF4.size
    have hx2l := lt_of_heap hx4
    refine ⟨fun _ => True, trivial, ?_⟩
    simp only [RS0, RS1, RS2, RS3, RS4, RS5, s4, s5, i12, i13, cvI_int, c12, c13, true_and, and_true]
    generalize w3.drew = w4 at hf4 hx4 hF4 hz4 hx2l
    have fin : ∀ (g : Nat) (w5 w6 : World), w4.heap.size ≤ g → Fm (fun _ => False) w4 w5 → w5.heap[g]? = some (.cells #[iv 0, iv 0, iv 0, iv 0, stv [], .slice none 0 0] 61) → w6.heap[g]? = some (.cells (pcs ⟨(dLsn d % 2 ^ 63 : Nat), dKind d, dLevel d, dRight d, [], []⟩ (.slice none 0 0)) 61) → Fm (· = g) w5 w6 → jj [pv g] w6 := by
      intro g w5 w6 h1 h2 h3 h4 h5
      exact hjj _ _ ⟨g, rfl, h4, by omega, by omega, h5.heap (h2.heap hx4 (fun e => e)) (by omega), Fm.own (Fmf hF4 h2) h5 (by rintro y rfl; omega)⟩
    have lay : ∀ u ∈ (pcs ⟨(dLsn d % 2 ^ 63 : Nat), dKind d, dLevel d, dRight d, [], []⟩ (.slice none 0 0)).toList, u.oneCell' = true := by
      intro u hu; simp [pcs] at hu; rcases hu with rfl | rfl | rfl | rfl | rfl | rfl <;> rfl
    refine ⟨?_, ?_⟩
    · refine (rof_spec w4 _ l1).mono ?_
      rintro _ w4 ⟨rfl, rfl⟩
      rw [o1]
      refine ⟨?_, ?_⟩
      · refine (rof_spec w4 _ l2).mono ?_
        rintro _ w4 ⟨rfl, rfl⟩
        rw [o2]
        refine ⟨_, fun w5 _ => RunS_ok (bld24a _ _ _ _ _) ⟨rfl, rfl⟩, ?_⟩
        refine New_any ?_
        intro g w5 hg hs5 hw5 hf5
        refine St_all hw5 rfl rfl lay ?_
        intro w6 hw6 hs6 hf6
        exact fin g w5 w6 (by omega) hf5 hw5 hw6 hf6
      · refine New_any ?_
        intro g w5 hg hs5 hw5 hf5
        refine (rof_spec w5 _ l2).mono ?_
        rintro _ w5 ⟨rfl, rfl⟩
        rw [o2]
        refine RunS_ok (bld24a _ _ _ _ _) ⟨rfl, ?_⟩
        refine St_all hw5 rfl rfl lay ?_
        intro w6 hw6 hs6 hf6
        exact fin g w5 w6 (by omega) hf5 hw5 hw6 hf6
    · refine New_any ?_
      intro g w5 hg hs5 hw5 hf5
      refine (rof_spec w5 _ l1).mono ?_
      rintro _ w5 ⟨rfl, rfl⟩
      rw [o1]
      refine (rof_spec w5 _ l2).mono ?_
      rintro _ w5 ⟨rfl, rfl⟩
      rw [o2]
      refine RunS_ok (bld24a _ _ _ _ _) ⟨rfl, ?_⟩
      refine St_all hw5 rfl rfl lay ?_
      intro w6 hw6 hs6 hf6
      exact fin g w5 w6 (by omega) hf5 hw5 hw6 hf6

end Go.Proofs.YthbngnlmgplijaaGreatDoor

namespace Go.Proofs.YthbngnlmgplijaaGreatDoor
open Go.Al Go.Proofs
set_option linter.unusedVariables false
set_option linter.unusedSimpArgs false
set_option linter.unusedSectionVars false
set_option maxRecDepth 100000

def rfr (x : PV) : List Value := [iv x.1.num, iv x.1.pg.lsn, iv x.1.pg.kind, iv x.1.pg.level, iv x.1.pg.right, stv x.1.pg.high, x.2, .bool x.1.chg]
theorem rfr_len (x : PV) : (rfr x).length = 8 := rfl
theorem rfr_one {x : PV} (h : x.2.oneCell' = true) : ∀ u ∈ (rfr x).toArray.toList, u.oneCell' = true := by
  intro u hu
  simp [rfr] at hu
  rcases hu with rfl | rfl | rfl | rfl | rfl | rfl | rfl | rfl <;> first | rfl | assumption
def rpc (db lb fb n c : Nat) (vT : Value) (p : Pl) : Array Value := #[pv db, pv lb, iv (p.frm : Int), iv (p.pages : Int), .slice (some ⟨fb, 0, none⟩) n c, vT]
def RPw (pb fb : Nat) (vT : Value) (y : Nat) : Prop := y = pb ∨ y = fb ∨ vT.ownBlock = some y
structure RP (w : World) (Q : Nat → Prop) (b0 pb lb db fb cap : Nat) (vT : Value) (F : List PV) (ys : List Value) (p : Pl) : Prop where
  st : w.heap[pb]? = some (.cells (rpc db lb fb F.length cap vT p) 170)
  fr : w.heap[fb]? = some (.cells (F.flatMap rfr ++ ys).toArray 172)
  tb : w.ownsRow b0 120 2 vT p.owed.length (p.owed.flatMap pc2)
  fs : F.map (·.1) = p.fr
  it : ∀ x ∈ F, HeldP w Q x.2 x.1.pg
  qs : ∀ y, Q y → y < w.heap.size ∧ ¬ RPw pb fb vT y
  wf : p.Wf
  inc : (p.owed.map (·.1)).Pairwise (· < ·)
  rng : ∀ x ∈ p.owed, 0 ≤ x.1 ∧ x.1 < (p.pages : Int)
  enc : ∀ f ∈ p.fr, f.chg = true → (pEnc f.pg).2 = 0
def holdI : Option Nat → Int
  | some i => (i : Int)
  | none => -1
section
variable {w w' : World} {Q S : Nat → Prop} {b0 pb lb db fb cap : Nat} {vT : Value} {F : List PV} {ys : List Value} {p : Pl}
theorem RP.keep (h : RP w Q b0 pb lb db fb cap vT F ys p) (hf : Fm S w w') (hS : ∀ y, RPw pb fb vT y ∨ Q y → ¬ S y) : RP w' Q b0 pb lb db fb cap vT F ys p :=
  ⟨hf.heap h.st (hS _ (.inl (.inl rfl))), hf.heap h.fr (hS _ (.inl (.inr (.inl rfl)))), own_keep h.tb hf (fun y _ _ hy => hS y (.inl (.inr (.inr hy)))), h.fs, fun x hx => (h.it x hx).keep hf (fun y hy => hS y (.inr hy)), fun y hy => ⟨Nat.lt_of_lt_of_le (h.qs y hy).1 hf.size, (h.qs y hy).2⟩, h.wf, h.inc, h.rng, h.enc⟩
theorem RP.keep0 (h : RP w Q b0 pb lb db fb cap vT F ys p) (hf : Fm (fun _ => False) w w') : RP w' Q b0 pb lb db fb cap vT F ys p := h.keep hf (fun _ _ e => e)
theorem RP.len (h : RP w Q b0 pb lb db fb cap vT F ys p) : F.length = p.fr.length := by rw [← h.fs, List.length_map]
theorem RP.flen (h : RP w Q b0 pb lb db fb cap vT F ys p) : 1 ≤ F.length ∧ F.length ≤ 1024 := by rw [h.len]; exact h.wf.f1
theorem RP.olen (h : RP w Q b0 pb lb db fb cap vT F ys p) : p.owed.length ≤ 8192 := by
  have := inc_len (p.owed.map (·.1)) 0 p.pages (by omega) (fun x hx => by
    obtain ⟨q, hq, rfl⟩ := List.mem_map.1 hx
    exact h.rng q hq) h.inc
  rw [List.length_map] at this
  have := h.wf.pg
  omega
theorem RP.lt (h : RP w Q b0 pb lb db fb cap vT F ys p) : ∀ y, RPw pb fb vT y ∨ Q y → y < w.heap.size := by
  rintro y ((rfl | rfl | hy) | hy)
  · exact lt_of_heap h.st
  · exact lt_of_heap h.fr
  · exact (own_lt h.tb y hy).2
  · exact (h.qs y hy).1
theorem RP.pf (h : RP w Q b0 pb lb db fb cap vT F ys p) : pb ≠ fb := by
  rintro rfl
  have := h.st
  rw [h.fr] at this
  injection (Option.some.inj this) with _ e _
  exact absurd e (by decide)
theorem RP.tv {u : Nat} {cs : Array Value} {t : TypeId} (h : RP w Q b0 pb lb db fb cap vT F ys p) (hu : w.heap[u]? = some (.cells cs t)) (ht : t ≠ 120) : vT.ownBlock ≠ some u := by
  intro e
  rcases h.tb.2 with ⟨rfl, _⟩ | ⟨g, cap, cur, rfl, _, hg, _⟩
  · cases e
  · cases e
    rw [hu] at hg
    injection (Option.some.inj hg) with _ e _
    exact ht e
theorem RP.tf (h : RP w Q b0 pb lb db fb cap vT F ys p) : vT.ownBlock ≠ some fb := h.tv h.fr (by decide)
theorem RP.c0 (h : RP w Q b0 pb lb db fb cap vT F ys p) : w.cell? ⟨pb, 0, none⟩ = some (pv db) := by rw [cell_at h.st]; rfl
theorem RP.c1 (h : RP w Q b0 pb lb db fb cap vT F ys p) : w.cell? ⟨pb, 1, none⟩ = some (pv lb) := by rw [cell_at h.st]; rfl
theorem RP.c2 (h : RP w Q b0 pb lb db fb cap vT F ys p) : w.cell? ⟨pb, 2, none⟩ = some (iv (p.frm : Int)) := by rw [cell_at h.st]; rfl
theorem RP.c3 (h : RP w Q b0 pb lb db fb cap vT F ys p) : w.cell? ⟨pb, 3, none⟩ = some (iv (p.pages : Int)) := by rw [cell_at h.st]; rfl
theorem RP.c4 (h : RP w Q b0 pb lb db fb cap vT F ys p) : w.cell? ⟨pb, 4, none⟩ = some (.slice (some ⟨fb, 0, none⟩) F.length cap) := by rw [cell_at h.st]; rfl
theorem RP.c5 (h : RP w Q b0 pb lb db fb cap vT F ys p) : w.cell? ⟨pb, 5, none⟩ = some vT := by rw [cell_at h.st]; rfl
theorem RP.fc (h : RP w Q b0 pb lb db fb cap vT F ys p) {i : Nat} {x : PV} (hi : F[i]? = some x) {j : Nat} (hj : j < 8) : w.cell? ⟨fb, i * 8 + j, none⟩ = (rfr x)[j]? := by
  have hil := (List.getElem?_eq_some_iff.1 hi).1
  rw [cell_at h.fr, List.getElem?_toArray, List.getElem?_append_left (by rw [flat_len rfr_len]; omega), flat_get rfr_len hi hj]
theorem RP.f0 (h : RP w Q b0 pb lb db fb cap vT F ys p) {i : Nat} {x : PV} (hi : F[i]? = some x) : w.cell? ⟨fb, i * 8, none⟩ = some (iv x.1.num) := h.fc hi (j := 0) (by omega)
theorem RP.f1 (h : RP w Q b0 pb lb db fb cap vT F ys p) {i : Nat} {x : PV} (hi : F[i]? = some x) : w.cell? ⟨fb, i * 8 + 1, none⟩ = some (iv x.1.pg.lsn) := h.fc hi (by omega)
theorem RP.f7 (h : RP w Q b0 pb lb db fb cap vT F ys p) {i : Nat} {x : PV} (hi : F[i]? = some x) : w.cell? ⟨fb, i * 8 + 7, none⟩ = some (.bool x.1.chg) := h.fc hi (by omega)
theorem RP.pg6 (h : RP w Q b0 pb lb db fb cap vT F ys p) {i : Nat} {x : PV} (hi : F[i]? = some x) : cellsV w ⟨fb, i * 8 + 1, none⟩ 6 = some (.agg (pcs x.1.pg x.2)) := by
  refine cellsV_of (l := ((rfr x).drop 1).take 6) rfl (fun j hj => ?_)
  rw [add_none, Nat.add_assoc, h.fc hi (by omega), List.getElem?_take, if_pos hj, List.getElem?_drop]
theorem RP.ix (i : Nat) {n c : Nat} (hi : i < n) (fb : Nat) : ixV 8 (.slice (some ⟨fb, 0, none⟩) n c) (iv (i : Int)) = some (.pointer (some ⟨fb, i * 8, none⟩)) := by
  rw [ixV_at hi, add_none, Nat.zero_add]
theorem RP.frg (h : RP w Q b0 pb lb db fb cap vT F ys p) {i : Nat} {x : PV} (hi : F[i]? = some x) : p.fr[i]? = some x.1 ∧ p.get i = x.1 := by
  have : p.fr[i]? = some x.1 := by rw [← h.fs, List.getElem?_map, hi]; rfl
  exact ⟨this, Pl.get_of this⟩
theorem RP.num (h : RP w Q b0 pb lb db fb cap vT F ys p) {i : Nat} {x : PV} (hi : F[i]? = some x) : x.1.num = -1 ∨ (0 ≤ x.1.num ∧ x.1.num < (p.pages : Int)) :=
  h.wf.nums _ (List.mem_of_getElem? (h.frg hi).1)
theorem rpat_spec (h : RP w Q b0 pb lb db fb cap vT F ys p) (n : Int) : Cl Tryz.prog 125 [pv pb, iv n] w fun v w' => v = iv (holdI (p.hold n)) ∧ w' = w := by
  have hlen := h.len
  have hw := h.flen
  refine c125 ?_; unfold T125
  refine ⟨fun vs w' => ∃ i : Nat, vs = [iv (i : Int)] ∧ i ≤ F.length ∧ (∀ (j : Nat) (f : Pf), j < i → p.fr[j]? = some f → f.num ≠ n) ∧ w' = w, fun vs _ => (F.length - nth vs 0).toNat, ⟨0, rfl, by omega, (fun j f hj => by omega), rfl⟩, ?_⟩
  rintro _ w2 ivv ⟨i, hvs, hi, hno, rfl⟩
  cases hvs
  by_cases hl : i < F.length
  · have d1 : decide ((i : Int) < (F.length : Int)) = true := by rw [decide_eq_true_eq]; omega
    have e1 : IntKind.i64.wrap ((i : Int) + 1) = ((i + 1 : Nat) : Int) := by rw [wrap_id] <;> omega
    have hx : F[i]? = some F[i] := List.getElem?_eq_getElem hl
    generalize F[i] = x at hx
    obtain ⟨g1, _⟩ := h.frg hx
    simp only [RS0, RS1, RS2, RS3, RS4, RS5, h.c4, d1, RP.ix i hl fb, h.f0 hx, beq_dec]
    cases hq : decide (x.1.num = n) with
    | true =>
      rw [decide_eq_true_eq] at hq
      simp only [RS0, RS1, RS2, RS3, RS4, RS5]
      refine ⟨?_, (by trivial)⟩
      have : p.hold n = some i := by
        unfold Pl.hold
        rw [List.findIdx?_eq_some_iff_getElem]
        have hli : i < p.fr.length := by omega
        refine ⟨hli, ?_, fun j hj => ?_⟩
        · rw [List.getElem?_eq_getElem hli] at g1
          rw [decide_eq_true_eq, Option.some.inj g1]; exact hq
        · have := hno j _ hj (List.getElem?_eq_getElem (by omega))
          simpa using this
      rw [this]; rfl
    | false =>
      rw [decide_eq_false_iff_not] at hq
      simp only [RS0, RS1, RS2, RS3, RS4, RS5, e1]
      refine ⟨⟨i + 1, rfl, by omega, fun j f hj hf => ?_, (by trivial)⟩, by simp only [nth_0]; omega⟩
      by_cases hji : j = i
      · subst hji
        rw [g1] at hf; cases hf; exact hq
      · exact hno j f (by omega) hf
  · have d1 : decide ((i : Int) < (F.length : Int)) = false := by rw [decide_eq_false_iff_not]; omega
    simp only [RS0, RS1, RS2, RS3, RS4, RS5, h.c4, d1]
    refine ⟨?_, (by trivial)⟩
    have : p.hold n = none := by
      unfold Pl.hold
      rw [List.findIdx?_eq_none_iff]
      intro f hf
      obtain ⟨j, hj⟩ := List.getElem?_of_mem hf
      have hjl := (List.getElem?_eq_some_iff.1 hj).1
      simpa using hno j f (by omega) hj
    rw [this]; rfl
theorem tb_ld (h : RP w Q b0 pb lb db fb cap vT F ys p) {i : Nat} {x : Int × Int} (hx : p.owed[i]? = some x) : ∃ ad, ixV 2 vT (iv (i : Int)) = some (.pointer (some ad)) ∧ w.cell? ad = some (iv x.1) ∧ cellsV w ad 2 = some (.agg (pc2 x).toArray) := by
  have hc := CellsAt.of_own h.tb
  have hi := (List.getElem?_eq_some_iff.1 hx).1
  obtain ⟨ad, h1, _, h3⟩ := hc.at (by omega) hi .i64
  have h0 := h3 0 (by omega)
  have h1' := h3 1 (by omega)
  rw [flat_get (f := pc2) (n := 2) (fun _ => rfl) hx (by omega)] at h0 h1'
  rw [add_zero] at h0
  exact ⟨ad, h1, h0, cellsV_2 h0 h1'⟩
theorem getD_mem {D : List (Int × Int)} {n : Int} : (getD D n).isNone = true ↔ ∀ x ∈ D, x.1 ≠ n := by
  rw [Option.isNone_iff_eq_none, getD_none]
  constructor
  · intro h x hx e
    exact h (List.mem_map.2 ⟨x, hx, e⟩)
  · intro h hm
    obtain ⟨x, hx, e⟩ := List.mem_map.1 hm
    exact h x hx e
theorem rpowes_spec (h : RP w Q b0 pb lb db fb cap vT F ys p) (n : Int) : Cl Tryz.prog 64 [pv pb, iv n] w fun v w' => v = .bool (!(getD p.owed n).isNone) ∧ w' = w := by
  have hw := h.olen
  refine c64 ?_; unfold T64
  refine ⟨fun vs w' => ∃ i : Nat, vs = [iv (i : Int)] ∧ i ≤ p.owed.length ∧ (∀ (j : Nat) (f : Int × Int), j < i → p.owed[j]? = some f → f.1 ≠ n) ∧ w' = w, fun vs _ => (p.owed.length - nth vs 0).toNat, ⟨0, rfl, by omega, (fun j f hj => by omega), rfl⟩, ?_⟩
  rintro _ w2 ivv ⟨i, hvs, hi, hno, rfl⟩
  cases hvs
  have hlv := (CellsAt.of_own h.tb).lenV
  by_cases hl : i < p.owed.length
  · have d1 : decide ((i : Int) < (p.owed.length : Int)) = true := by rw [decide_eq_true_eq]; omega
    have e1 : IntKind.i64.wrap ((i : Int) + 1) = ((i + 1 : Nat) : Int) := by rw [wrap_id] <;> omega
    have hx : p.owed[i]? = some p.owed[i] := List.getElem?_eq_getElem hl
    generalize p.owed[i] = x at hx
    obtain ⟨ad, q1, q2, _⟩ := tb_ld h hx
    simp only [RS0, RS1, RS2, RS3, RS4, RS5, h.c5, hlv, d1, q1, q2, beq_dec]
    cases hq : decide (x.1 = n) with
    | true =>
      rw [decide_eq_true_eq] at hq
      simp only [RS0, RS1, RS2, RS3, RS4, RS5]
      refine ⟨?_, (by trivial)⟩
      have : (getD p.owed n).isNone = false := by
        rw [Bool.eq_false_iff]
        intro e
        exact getD_mem.1 e x (List.mem_of_getElem? hx) hq
      rw [this]; rfl
    | false =>
      rw [decide_eq_false_iff_not] at hq
      simp only [RS0, RS1, RS2, RS3, RS4, RS5, e1]
      refine ⟨⟨i + 1, rfl, by omega, fun j f hj hf => ?_, (by trivial)⟩, by simp only [nth_0]; omega⟩
      by_cases hji : j = i
      · subst hji
        rw [hx] at hf; cases hf; exact hq
      · exact hno j f (by omega) hf
  · have d1 : decide ((i : Int) < (p.owed.length : Int)) = false := by rw [decide_eq_false_iff_not]; omega
    simp only [RS0, RS1, RS2, RS3, RS4, RS5, h.c5, hlv, d1]
    refine ⟨?_, (by trivial)⟩
    have : (getD p.owed n).isNone = true := getD_mem.2 fun x hx e => by
      obtain ⟨j, hj⟩ := List.getElem?_of_mem hx
      have hjl := (List.getElem?_eq_some_iff.1 hj).1
      exact hno j x (by omega) hj e
    rw [this]; rfl
end
theorem copied_spec {w : World} {P : Nat → Prop} {v : Value} {q : Pg} (hit : HeldP w P v q) : Cl Tryz.prog 126 [.agg (pcs q v)] w fun r w' => ∃ cs, r = .agg cs ∧ PgOw w' w.heap.size cs q ∧ Fm (fun _ => False) w w' := by
  obtain ⟨v1, v2, v3⟩ := hit.v1
  refine c126 ?_; unfold T126
  rw [pg0_cells]
  refine New_any ?_
  intro x1 w1 hx1 hs1 hw1 hf1
  refine New_any ?_
  intro x2 w2 hx2 hs2 hw2 hf2
  have hF2 := Fmf hf1 hf2
  have hw1' : w2.heap[x1]? = some (.cells (pcs q v) 61) := hf2.heap hw1 (fun e => e)
  have c5 : w2.cell? ⟨x1, 5, none⟩ = some v := by rw [cell_at hw1']; rfl
  have hsz : x1 = w.heap.size ∧ x2 = w.heap.size + 1 ∧ w2.heap.size = w.heap.size + 2 := by omega
  simp only [RS0, RS1, RS2, RS3, RS4, RS5, c5]
  obtain ⟨r, w4, hr3, ho4, hf4'⟩ := append_srcO E22 (by omega) (World.ownsRow_nil w2 w2.heap.size 9 1) (v2.keep hF2 (fun _ _ e => e)) (stv_one _) 59 (by unfold maxLen; omega) (by omega) (Nat.le_refl _)
  refine RunS_ok hr3 ?_
  rw [Nat.zero_add, List.nil_append] at ho4
  have hf4 : Fm (fun _ => False) w2 w4 := hf4'.mono (fun y _ e => by cases e)
  have hlt := own_lt ho4
  try simp only [RS0, RS1, RS2, RS3, RS4, RS5]
  refine St_blk (hf4.heap hw1' (fun e => e)) (by show 5 < 6; decide) (own_one ho4) ?_
  intro w5 hw5 hs5 hf5
  rw [pcs_set5] at hw5
  have hF4 := Fmf hF2 hf4
  have hF5 : Fm (fun _ => False) w w5 := Fm.own hF4 hf5 (by rintro y rfl; omega)
  have hw2' : w5.heap[x2]? = some (.cells (pcs pg0 (.slice none 0 0)) 61) := hf5.heap (hf4.heap hw2 (fun e => e)) (show ¬ x2 = x1 by omega)
  simp only [RS0, RS1, RS2, RS3, RS4, RS5, cellsV_blk hw5 (show (pcs q r).size = 6 from rfl)]
  refine St_all hw2' rfl rfl (pcs_one (own_one ho4)) ?_
  intro w6 hw6 hs6 hf6
  refine retP1 hw6 rfl ⟨_, rfl, ⟨⟨r, rfl, own_base (own_keep (own_keep ho4 hf5 (fun k hk _ _ e => by omega)) hf6 (fun k hk _ _ e => by omega)) (by omega)⟩, hit.now.small, hit.now.ins⟩, Fm.own hF5 hf6 (by rintro y rfl; omega)⟩

end Go.Proofs.YthbngnlmgplijaaGreatDoor

namespace Go.Proofs.YthbngnlmgplijaaGreatDoor
open Go.Al Go.Proofs
set_option linter.unusedVariables false
set_option linter.unusedSimpArgs false
set_option linter.unusedSectionVars false
set_option maxRecDepth 100000

def tyAt (w : World) (y : Nat) : Option TypeId := match w.heap[y]? with
  | some (.cells _ t _) => some t
  | _ => none
theorem tyAt_of {w : World} {y : Nat} {cs : Array Value} {t : TypeId} {z : Nat × Nat} (h : w.heap[y]? = some (.cells cs t z)) : tyAt w y = some t := by unfold tyAt; rw [h]
theorem tyAt_own {w : World} {b0 sz n : Nat} {e : TypeId} {v : Value} {xs : List Value} (h : w.ownsRow b0 e sz v n xs) {y : Nat} (hy : v.ownBlock = some y) : tyAt w y = some e := by
  rcases h.2 with ⟨rfl, _⟩ | ⟨g, cap, cur, rfl, _, hg, _⟩
  · cases hy
  · cases hy; exact tyAt_of hg
theorem DkAt.ty {w : World} {b : Nat} {q : DkL} {d : Dk} (h : DkAt w b q d) {y : Nat} (hy : q.mine b y) : tyAt w y = some 93 ∨ tyAt w y = some 9 ∨ tyAt w y = some 4 := by
  rcases hy with rfl | rfl | rfl | rfl
  · exact .inl (tyAt_of h.st)
  · obtain ⟨ys, hr⟩ := h.ro; exact .inr (.inl (tyAt_of hr))
  · obtain ⟨ys, hr⟩ := h.rn; exact .inr (.inl (tyAt_of hr))
  · obtain ⟨ys, hr⟩ := h.rc; exact .inr (.inr (tyAt_of hr))
theorem RL.ty {w : World} {b0 lb db : Nat} {v : Value} {L : Lg} (h : RL w b0 lb db v L) {y : Nat} (hy : RL.mine lb v y) : tyAt w y = some 167 ∨ tyAt w y = some 3 := by
  rcases hy with rfl | hy
  · exact .inl (tyAt_of h.st)
  · exact .inr (tyAt_own h.row hy)
theorem RP.ty {w : World} {Q : Nat → Prop} {b0 pb lb db fb cap : Nat} {vT : Value} {F : List PV} {ys : List Value} {p : Pl} (h : RP w Q b0 pb lb db fb cap vT F ys p) {y : Nat} (hy : RPw pb fb vT y) : tyAt w y = some 170 ∨ tyAt w y = some 172 ∨ tyAt w y = some 120 := by
  rcases hy with rfl | rfl | hy
  · exact .inl (tyAt_of h.st)
  · exact .inr (.inl (tyAt_of h.fr))
  · exact .inr (.inr (tyAt_own h.tb hy))
structure RSI (w : World) (Q : Nat → Prop) (b0 pb lb db fb cap : Nat) (q : DkL) (v vT : Value) (F : List PV) (ys : List Value) (s : PS) : Prop where
  hd : DkAt w db q s.d
  dw : s.d.Wf
  hl : RL w b0 lb db v s.l
  hp : RP w Q b0 pb lb db fb cap vT F ys s.p
  qd : ∀ y, Q y → ¬ q.mine db y ∧ ¬ RL.mine lb v y
  hb : b0 ≤ w.heap.size
def RSf (Q : Nat → Prop) (pb lb db fb : Nat) (q : DkL) (v vT : Value) (y : Nat) : Prop := q.mine db y ∨ RL.mine lb v y ∨ RPw pb fb vT y ∨ Q y
section
variable {w w' : World} {Q S Y : Nat → Prop} {b0 pb lb db fb cap : Nat} {q : DkL} {v vT : Value} {F : List PV} {ys : List Value} {s : PS}
theorem RSI.a1 (h : RSI w Q b0 pb lb db fb cap q v vT F ys s) {y : Nat} (hy : q.mine db y) : ¬ RL.mine lb v y ∧ ¬ RPw pb fb vT y := by
  constructor
  · intro e
    rcases h.hd.ty hy with a | a | a <;> rcases h.hl.ty e with b | b <;> rw [a] at b <;> exact absurd (Option.some.inj b) (by decide)
  · intro e
    rcases h.hd.ty hy with a | a | a <;> rcases h.hp.ty e with b | b | b <;> rw [a] at b <;> exact absurd (Option.some.inj b) (by decide)
theorem RSI.a2 (h : RSI w Q b0 pb lb db fb cap q v vT F ys s) {y : Nat} (hy : RL.mine lb v y) : ¬ RPw pb fb vT y := by
  intro e
  rcases h.hl.ty hy with a | a <;> rcases h.hp.ty e with b | b | b <;> rw [a] at b <;> exact absurd (Option.some.inj b) (by decide)
theorem RSI.keep (h : RSI w Q b0 pb lb db fb cap q v vT F ys s) (hf : Fm S w w') (hS : ∀ y, RSf Q pb lb db fb q v vT y → ¬ S y) : RSI w' Q b0 pb lb db fb cap q v vT F ys s :=
  ⟨h.hd.keep hf (fun y hy => hS y (.inl hy)), h.dw, h.hl.keep hf (fun y hy => hS y (.inr (.inl hy))), h.hp.keep hf (fun y hy => hS y (hy.elim (fun e => .inr (.inr (.inl e))) (fun e => .inr (.inr (.inr e))))), h.qd, Nat.le_trans h.hb hf.size⟩
theorem RSI.keep0 (h : RSI w Q b0 pb lb db fb cap q v vT F ys s) (hf : Fm (fun _ => False) w w') : RSI w' Q b0 pb lb db fb cap q v vT F ys s := h.keep hf (fun _ _ e => e)
theorem RSI.lt (h : RSI w Q b0 pb lb db fb cap q v vT F ys s) : ∀ y, RSf Q pb lb db fb q v vT y → y < w.heap.size := by
  rintro y (hy | hy | hy | hy)
  · exact h.hd.lt y hy
  · exact h.hl.lt y hy
  · exact h.hp.lt y (.inl hy)
  · exact h.hp.lt y (.inr hy)
def RS (w : World) (Y : Nat → Prop) (pb lb db fb : Nat) (s : PS) : Prop :=
  ∃ (Q : Nat → Prop) (b0 cap : Nat) (q : DkL) (v vT : Value) (F : List PV) (ys : List Value), RSI w Q b0 pb lb db fb cap q v vT F ys s ∧ (∀ y, RSf Q pb lb db fb q v vT y → Y y) ∧ ∀ y, Y y → y < w.heap.size
theorem RS.keep (h : RS w Y pb lb db fb s) (hf : Fm S w w') (hS : ∀ y, Y y → ¬ S y) : RS w' Y pb lb db fb s := by
  obtain ⟨Q, b0, cap, q, v, vT, F, ys, hi, h1, h2⟩ := h
  exact ⟨Q, b0, cap, q, v, vT, F, ys, hi.keep hf (fun y hy => hS y (h1 y hy)), h1, fun y hy => Nat.lt_of_lt_of_le (h2 y hy) hf.size⟩
theorem RS.keep0 (h : RS w Y pb lb db fb s) (hf : Fm (fun _ => False) w w') : RS w' Y pb lb db fb s := h.keep hf (fun _ _ e => e)
theorem RS.lt (h : RS w Y pb lb db fb s) : ∀ y, Y y → y < w.heap.size := by
  obtain ⟨Q, b0, cap, q, v, vT, F, ys, hi, h1, h2⟩ := h
  exact h2
def Grw (w : World) (Y Y' : Nat → Prop) : Prop := ∀ y, Y' y → Y y ∨ w.heap.size ≤ y
def RStep (w : World) (Y : Nat → Prop) (pb lb db fb : Nat) (s' : PS) (w' : World) : Prop := (∃ Y', RS w' Y' pb lb db fb s' ∧ Grw w Y Y') ∧ Fm Y w w'
theorem flushGo_wf {L : Lg} : ∀ (f k : Nat) (d : Dk), d.Wf → (L.flushGo f k d).1.Wf
  | 0, k, d, h => h
  | f + 1, k, d, h => by
    rw [Lg.flushGo]
    have hp : (L.put k d).1.Wf := Dk.Wf.write h _ _
    cases decide (k * 54 + 1 < L.tail) with
    | false => exact h
    | true =>
      cases decide ((L.put k d).2 = 0) with
      | false => exact hp
      | true => exact flushGo_wf f (k + 1) _ hp
theorem flush_wf {L : Lg} {d : Dk} (h : d.Wf) (u : Int) : (L.flush u d).2.1.Wf := by
  have hE : (L.flushE d).1.Wf := flushGo_wf _ _ _ h
  unfold Lg.flush
  cases decide (u < (L.last : Int)) || decide (L.last = L.tail) with
  | true => exact h
  | false =>
    cases decide ((L.flushE d).2 = 0) with
    | false => exact hE
    | true =>
      simp only [cond_true, cond_false]
      cases decide ((L.flushE d).1.sync.2 = 0) with
      | false => exact hE.sync
      | true => exact hE.sync
theorem RSI.flush (h : RSI w Q b0 pb lb db fb cap q v vT F ys s) (u : Int) : Cl Tryz.prog 69 [pv lb, iv u] w fun r w' => r = iv (s.l.flush u s.d).2.2 ∧ RSI w' Q b0 pb lb db fb cap q v vT F ys ⟨s.p, (s.l.flush u s.d).1, (s.l.flush u s.d).2.1⟩ ∧ Fm (RSf Q pb lb db fb q v vT) w w' := by
  refine (rlflush_spec h.hl h.hd h.dw (fun y hy e => (h.a1 e).1 hy) u).mono ?_
  rintro r w' ⟨rfl, h1, h2, hf⟩
  have hno : ∀ y, RPw pb fb vT y ∨ Q y → ¬ RFD lb db q y := by
    rintro y (hy | hy) (rfl | e)
    · exact h.a2 (.inl rfl) hy
    · exact (h.a1 e).2 hy
    · exact (h.qd _ hy).2 (.inl rfl)
    · exact (h.qd y hy).1 e
  refine ⟨rfl, ⟨h2, flush_wf h.dw u, h1, h.hp.keep hf hno, h.qd, Nat.le_trans h.hb hf.size⟩, hf.mono ?_⟩
  rintro y _ (rfl | e)
  · exact .inr (.inl (.inl rfl))
  · exact .inl e
theorem RSI.dwrite (h : RSI w Q b0 pb lb db fb cap q v vT F ys s) (a : Int) (t : Bs) (ht : t.length ≤ 9223372036854775807) : Cl Tryz.prog 123 [pv db, iv a, stv t] w fun r w' => r = iv (s.d.write a t).2 ∧ RSI w' Q b0 pb lb db fb cap q v vT F ys ⟨s.p, s.l, (s.d.write a t).1⟩ ∧ Fm (RSf Q pb lb db fb q v vT) w w' := by
  refine (rdwrite_spec h.hd h.dw a t ht).mono ?_
  rintro r w' ⟨rfl, h1, hf⟩
  refine ⟨rfl, ⟨h1, Dk.Wf.write h.dw _ _, h.hl.keep hf (fun y hy e => (h.a1 e).1 hy), h.hp.keep hf ?_, h.qd, Nat.le_trans h.hb hf.size⟩, hf.mono (fun y _ e => .inl e)⟩
  rintro y (hy | hy) e
  · exact (h.a1 e).2 hy
  · exact (h.qd y hy).1 e
end

end Go.Proofs.YthbngnlmgplijaaGreatDoor

namespace Go.Proofs.YthbngnlmgplijaaGreatDoor
open Go.Al Go.Proofs
set_option linter.unusedVariables false
set_option linter.unusedSimpArgs false
set_option linter.unusedSectionVars false
set_option maxRecDepth 100000

theorem filter_take {α : Type} {f : α → Bool} {l : List α} {i : Nat} {x : α} (h : l[i]? = some x) : (l.take (i + 1)).filter f = (l.take i).filter f ++ bif f x then [x] else [] := by
  rw [List.take_add_one, h, List.filter_append]
  cases hf : f x <;> simp [hf]
section
variable {w w' : World} {Q S Y : Nat → Prop} {b0 pb lb db fb cap : Nat} {q : DkL} {v vT : Value} {F : List PV} {ys : List Value} {s : PS} {p : Pl}
theorem RP.stays (h : RP w Q b0 pb lb db fb cap vT F ys p) (n : Int) : p.stays n = match p.hold n with
    | some i => (p.get i).chg
    | none => false := rfl
theorem RP.held (h : RP w Q b0 pb lb db fb cap vT F ys p) {n : Int} {i : Nat} (hh : p.hold n = some i) : ∃ x, F[i]? = some x ∧ x.1.num = n ∧ i < F.length := by
  obtain ⟨f, hf, hn⟩ := Pl.hold_some hh
  have hi : i < F.length := by rw [h.len]; exact (List.getElem?_eq_some_iff.1 hf).1
  refine ⟨F[i], List.getElem?_eq_getElem hi, ?_, hi⟩
  have := (h.frg (List.getElem?_eq_getElem hi)).1
  rw [hf] at this
  rw [← Option.some.inj this]; exact hn
theorem ldpair {w : World} {x : Int × Int} (u : World) : (Instr.buildSlice 25 1 #[(0, .agg (pc2 x).toArray)]).run Tryz.prog u = .ok (.slice (some ⟨u.heap.size, 0, none⟩) 1 1) (u.alloc (.cells (pc2 x).toArray 120)) := bs49 x.1 x.2 u
set_option maxHeartbeats 4000000 in
theorem rpsynced_spec (h : RP w Q b0 pb lb db fb cap vT F ys p) (hb : b0 ≤ w.heap.size) : Cl Tryz.prog 55 [pv pb] w fun r w' => ∃ vT', RP w' Q b0 pb lb db fb cap vT' F ys p.synced ∧ (∀ y, vT'.ownBlock = some y → w.heap.size ≤ y) ∧ Fm (· = pb) w w' := by
  have hw := h.olen
  have hlen := h.len
  have hlt := h.lt
  have hfl := h.flen
  refine c55 ?_; unfold T55
  refine ⟨fun vs w2 => ∃ (i : Nat) (u : Value), vs = [u, iv (i : Int)] ∧ i ≤ p.owed.length ∧ w2.ownsRow w.heap.size 120 2 u ((p.owed.take i).filter fun x => p.stays x.1).length (((p.owed.take i).filter fun x => p.stays x.1).flatMap pc2) ∧ Fm (fun _ => False) w w2, fun vs _ => (p.owed.length - nth vs 1).toNat, ⟨0, _, rfl, by omega, by simpa using World.ownsRow_nil w _ _ _, Fm.refl _ _⟩, ?_⟩
  rintro _ w2 u ivv ⟨i, _, hvs, hi, ho2, hF2⟩
  cases hvs
  have h2 := h.keep0 hF2
  have hlv := (CellsAt.of_own h2.tb).lenV
  have z2 := hF2.size
  by_cases hl : i < p.owed.length
  · have d1 : decide ((i : Int) < (p.owed.length : Int)) = true := by rw [decide_eq_true_eq]; omega
    have e1 : IntKind.i64.wrap ((i : Int) + 1) = ((i + 1 : Nat) : Int) := by rw [wrap_id] <;> omega
    have hx : p.owed[i]? = some p.owed[i] := List.getElem?_eq_getElem hl
    generalize p.owed[i] = x at hx
    obtain ⟨ad, q1, q2, q3⟩ := tb_ld h2 hx
    have hft := filter_take (f := fun x : Int × Int => p.stays x.1) hx
    have hfl2 : ((p.owed.take i).filter fun x => p.stays x.1).length ≤ i := Nat.le_trans (List.length_filter_le _ _) (by rw [List.length_take]; omega)
    simp only [RS0, RS1, RS2, RS3, RS4, RS5, h2.c5, hlv, d1]
    refine Jn_at (fun vs w3 => ∃ u', vs = [u'] ∧ w3.ownsRow w.heap.size 120 2 u' ((p.owed.take (i + 1)).filter fun x => p.stays x.1).length (((p.owed.take (i + 1)).filter fun x => p.stays x.1).flatMap pc2) ∧ Fm (fun _ => False) w w3) ?_ ?_
    · rintro _ w3 ⟨u', rfl, ho3, hF3⟩ _
      refine ⟨_, rfl, ?_⟩
      simp only [RS0, RS1, RS2, RS3, RS4, RS5, e1]
      exact ⟨⟨i + 1, u', rfl, by omega, ho3, hF3⟩, by simp only [nth_1]; omega⟩
    intro jj hjj
    simp only [RS0, RS1, RS2, RS3, RS4, RS5, h2.c5, q1, q2]
    refine (rpat_spec h2 x.1).mono ?_
    rintro _ w2' ⟨rfl, rfl⟩
    have hst := h.stays x.1
    cases hh : p.hold x.1 with
    | none =>
      rw [hh] at hst
      simp only at hst
      rw [hst, cond_false, List.append_nil] at hft
      have d2 : decide ((0 : Int) ≤ holdI none) = false := rfl
      simp only [RS0, RS1, RS2, RS3, RS4, RS5, d2]
      exact hjj _ _ ⟨u, rfl, by rw [hft]; exact ho2, hF2⟩
    | some k =>
      rw [hh] at hst
      simp only at hst
      obtain ⟨y, hy, hyn, hkl⟩ := h2.held hh
      have hg := (h2.frg hy).2
      rw [hg] at hst
      have d2 : decide ((0 : Int) ≤ (k : Int)) = true := by rw [decide_eq_true_eq]; omega
      have e3 : holdI (some k) = (k : Int) := rfl
      simp only [RS0, RS1, RS2, RS3, RS4, RS5, d2, e3, h2.c4, RP.ix k hkl fb, h2.f7 hy]
      cases hc : y.1.chg with
      | false =>
        rw [hst, hc, cond_false, List.append_nil] at hft
        simp only [RS0, RS1, RS2, RS3, RS4, RS5]
        exact hjj _ _ ⟨u, rfl, by rw [hft]; exact ho2, hF2⟩
      | true =>
        rw [hst, hc, cond_true] at hft
        simp only [RS0, RS1, RS2, RS3, RS4, RS5, h2.c5, q1, q3]
        refine append_el Er49 (by omega) 25 (cs := pc2 x) rfl (ldpair (w := w) _) (by intro u hu; simp [pc2] at hu; rcases hu with rfl | rfl <;> rfl) ho2 (by unfold maxLen; omega) (by omega) z2 ?_
        intro u' w3 ho3 _ hf3
        refine hjj _ _ ⟨u', rfl, ?_, Fm.own hF2 hf3 (fun y hy => hy)⟩
        rw [hft, List.length_append, List.flatMap_append]
        simpa using ho3
  · have hie : i = p.owed.length := by omega
    subst hie
    have d1 : decide (((p.owed.length : Nat) : Int) < (p.owed.length : Int)) = false := by simp
    rw [List.take_length] at ho2
    simp only [RS0, RS1, RS2, RS3, RS4, RS5, h2.c5, hlv, d1]
    refine St_blk h2.st (by show 5 < 6; decide) (own_one ho2) ?_
    intro w3 hw3 hs3 hf3
    replace hw3 : w3.heap[pb]? = some (.cells (rpc db lb fb F.length cap u p.synced) 170) := hw3
    have hul := own_lt ho2
    have hpb := hlt pb (.inl (.inl rfl))
    refine ⟨u, ⟨hw3, hf3.heap h2.fr h2.pf.symm, own_base (own_keep ho2 hf3 (fun y hy _ _ e => by omega)) hb, h.fs, fun x hx => (h2.it x hx).keep hf3 (fun y hy e => (h.qs y hy).2 (.inl e)), fun y hy => ?_, h.wf.of_fr rfl rfl rfl, ?_, ?_, h.enc⟩, fun y hy => (hul y hy).1, ?_⟩
    · obtain ⟨k1, k2⟩ := h.qs y hy
      refine ⟨by omega, ?_⟩
      rintro (e | e | e)
      · exact k2 (.inl e)
      · exact k2 (.inr (.inl e))
      · have := (hul y e).1; omega
    · exact List.Pairwise.sublist (List.Sublist.map _ (List.filter_sublist)) h.inc
    · intro x hx
      exact h.rng x ((List.mem_filter.1 hx).1)
    · exact (hF2.mono (fun _ _ e => e.elim)).trans hf3 (fun _ _ e => e) (fun _ _ e => e)
theorem RSI.synced (h : RSI w Q b0 pb lb db fb cap q v vT F ys s) : Cl Tryz.prog 55 [pv pb] w fun r w' => ∃ vT', RSI w' Q b0 pb lb db fb cap q v vT' F ys ⟨s.p.synced, s.l, s.d⟩ ∧ (∀ y, vT'.ownBlock = some y → w.heap.size ≤ y) ∧ Fm (RSf Q pb lb db fb q v vT) w w' := by
  refine (rpsynced_spec h.hp h.hb).mono ?_
  rintro r w' ⟨vT', h1, h2, hf⟩
  refine ⟨vT', ⟨h.hd.keep hf (fun y hy e => (h.a1 hy).2 (.inl e)), h.dw, h.hl.keep hf (fun y hy e => h.a2 hy (.inl e)), h1, h.qd, Nat.le_trans h.hb hf.size⟩, h2, hf.mono (fun y _ e => .inr (.inr (.inl (.inl e))))⟩
theorem RSI.setF (h : RSI w Q b0 pb lb db fb cap q v vT F ys s) {i : Nat} {x : PV} (hi : F[i]? = some x) {k : KV} (hk : ∀ w', RSI w' Q b0 pb lb db fb cap q v vT (F.set i ({ x.1 with chg := false }, x.2)) ys ⟨s.p.lay i { x.1 with chg := false }, s.l, s.d⟩ → Fm (· = fb) w w' → k undef w') :
    St 1 w (.pointer (some ⟨fb, i * 8 + 7, none⟩)) (.bool false) k := by
  have hil := (List.getElem?_eq_some_iff.1 hi).1
  have hmem := List.mem_of_getElem? hi
  refine St_blk h.hp.fr (by rw [List.size_toArray, List.length_append, flat_len rfr_len]; omega) rfl ?_
  intro w' hw' hs' hf'
  have hset := flat_set1 rfr_len (F := F) (y := (({ x.1 with chg := false }, x.2) : PV)) (u := .bool false) hi (j := 7) (by omega) rfl
  rw [List.setIfInBounds_toArray, List.set_append_left _ _ (by rw [flat_len rfr_len]; omega), ← hset] at hw'
  have hp := h.hp
  have hfb : ∀ y, Q y → ¬ y = fb := by rintro y hy rfl; exact (hp.qs _ hy).2 (.inr (.inl rfl))
  have hno : ¬ fb = pb := fun e => hp.pf e.symm
  refine hk w' ⟨h.hd.keep hf' (fun y hy e => (h.a1 hy).2 (.inr (.inl e))), h.dw, h.hl.keep hf' (fun y hy e => h.a2 hy (.inr (.inl e))), ⟨?_, hw', own_keep hp.tb hf' (fun y _ _ hy e => hp.tf (by rw [hy, e])), ?_, ?_, fun y hy => ⟨by have := (hp.qs y hy).1; omega, (hp.qs y hy).2⟩, hp.wf.lay (hp.num hi), hp.inc, hp.rng, ?_⟩, h.qd, by rw [hs']; exact h.hb⟩ hf'
  · rw [List.length_set]; exact hf'.heap hp.st hp.pf
  · rw [List.map_set, hp.fs]; rfl
  · intro z hz
    rcases List.mem_or_eq_of_mem_set hz with hz | rfl
    · exact (hp.it z hz).keep hf' hfb
    · exact (hp.it x hmem).keep hf' hfb
  · intro f hf hc
    rcases List.mem_or_eq_of_mem_set hf with hf | rfl
    · exact hp.enc f hf hc
    · cases hc
end

end Go.Proofs.YthbngnlmgplijaaGreatDoor

namespace Go.Proofs.YthbngnlmgplijaaGreatDoor
open Go.Al Go.Proofs
set_option linter.unusedVariables false
set_option linter.unusedSimpArgs false
set_option linter.unusedSectionVars false
set_option maxRecDepth 100000

theorem bld172z (w : World) : (Instr.build 172 #[(0, iv (-1))]).run Tryz.prog w = .ok (.agg (rfr (pf0, nlv)).toArray) w := by kernel_rfl
theorem bld172a (p : Pg) (a : Option Addr) (j c : Nat) (n : Int) (w : World) : (Instr.build 172 #[(0, iv n), (1, .agg (pcs p (.slice a j c)))]).run Tryz.prog w = .ok (.agg (rfr (⟨p, n, false⟩, .slice a j c)).toArray) w := by kernel_rfl
theorem bld172b (p : Pg) (a : Option Addr) (j c : Nat) (n : Int) (w : World) : (Instr.build 172 #[(0, iv n), (1, .agg (pcs p (.slice a j c))), (2, .bool true)]).run Tryz.prog w = .ok (.agg (rfr (⟨p, n, true⟩, .slice a j c)).toArray) w := by kernel_rfl
section
variable {w w' : World} {Q S Y : Nat → Prop} {b0 pb lb db fb cap : Nat} {q : DkL} {v vT : Value} {F : List PV} {ys : List Value} {s : PS} {p : Pl}
theorem RStep.up {f : Nat → Prop} {s' : PS} (h : RStep w f pb lb db fb s' w') (hf : ∀ y, f y → Y y) : RStep w Y pb lb db fb s' w' := by
  obtain ⟨⟨Y', h1, g1⟩, f1⟩ := h
  exact ⟨⟨Y', h1, fun y hy => (g1 y hy).imp (hf y) id⟩, f1.mono (fun y _ e => hf y e)⟩
theorem RSI.step1 {f : Nat → Prop} {Q' : Nat → Prop} {b0' cap' : Nat} {q' : DkL} {v' vT' : Value} {F' : List PV} {ys' : List Value} {s' : PS}
    (h' : RSI w' Q' b0' pb lb db fb cap' q' v' vT' F' ys' s') (hg : ∀ y, RSf Q' pb lb db fb q' v' vT' y → f y ∨ w.heap.size ≤ y) (hf : Fm f w w') : RStep w f pb lb db fb s' w' :=
  ⟨⟨RSf Q' pb lb db fb q' v' vT', ⟨Q', b0', cap', q', v', vT', F', ys', h', fun y hy => hy, h'.lt⟩, hg⟩, hf⟩
theorem RSf.new {vT' : Value} {y : Nat} {N : Nat} (hv : ∀ y, vT'.ownBlock = some y → vT.ownBlock = some y ∨ N ≤ y) (hy : RSf Q pb lb db fb q v vT' y) : RSf Q pb lb db fb q v vT y ∨ N ≤ y := by
  rcases hy with e | e | (e | e | e) | e
  · exact .inl (.inl e)
  · exact .inl (.inr (.inl e))
  · exact .inl (.inr (.inr (.inl (.inl e))))
  · exact .inl (.inr (.inr (.inl (.inr (.inl e)))))
  · exact (hv y e).imp (fun e => .inr (.inr (.inl (.inr (.inr e))))) id
  · exact .inl (.inr (.inr (.inr e)))
set_option maxHeartbeats 4000000 in
theorem rpwrites_spec (h : RSI w Q b0 pb lb db fb cap q v vT F ys s) {i : Nat} {x : PV} (hi : F[i]? = some x) (hch : x.1.chg = true) :
    Cl Tryz.prog 133 [pv pb, iv (i : Int)] w fun r w' => r = iv (s.write1 i).2 ∧ RStep w (RSf Q pb lb db fb q v vT) pb lb db fb (s.write1 i).1 w' := by
  obtain ⟨hfri, hget⟩ := h.hp.frg hi
  have hmem := List.mem_of_getElem? hi
  have hil := (List.getElem?_eq_some_iff.1 hi).1
  have hE : s.write1 i = bif decide ((s.l.last : Int) ≤ x.1.pg.lsn) then (bif decide ((s.l.flush x.1.pg.lsn s.d).2.2 = 0) then (PS.mk s.p.synced (s.l.flush x.1.pg.lsn s.d).1 (s.l.flush x.1.pg.lsn s.d).2.1).put i else (⟨s.p, (s.l.flush x.1.pg.lsn s.d).1, (s.l.flush x.1.pg.lsn s.d).2.1⟩, (s.l.flush x.1.pg.lsn s.d).2.2)) else s.put i := by
    unfold PS.write1 PS.flu
    rw [hget]
  have up : ∀ {a b : World}, Fm (fun _ => False) a b → Fm (RSf Q pb lb db fb q v vT) a b := fun hf => hf.mono (fun _ _ e => e.elim)
  refine c133 ?_; unfold T133
  simp only [RS0, RS1, RS2, RS3, RS4, RS5, h.hp.c4, RP.ix i hil fb]
  refine Jn_at (fun vs w' => vs = [] ∧ ∃ vT1 s1, RSI w' Q b0 pb lb db fb cap q v vT1 F ys s1 ∧ (∀ y, vT1.ownBlock = some y → vT.ownBlock = some y ∨ w.heap.size ≤ y) ∧ Fm (RSf Q pb lb db fb q v vT) w w' ∧ s.write1 i = s1.put i) ?_ ?_
  · rintro _ w2 ⟨rfl, vT1, s1, h1, hv1, hF2, he⟩ _
    refine ⟨rfl, ?_⟩
    rw [he]
    clear hE he
    have hg1 : s1.p.get i = x.1 := (h1.hp.frg hi).2
    have henc : (pEnc x.1.pg).2 = 0 := h1.hp.enc x.1 (List.mem_of_getElem? (h1.hp.frg hi).1) hch
    have hput : s1.put i = bif decide ((s1.d.write ((s1.p.frm : Int) + 8 * x.1.num) (pEnc x.1.pg).1).2 = 0) then (⟨s1.p.lay i { x.1 with chg := false }, s1.l, (s1.d.write ((s1.p.frm : Int) + 8 * x.1.num) (pEnc x.1.pg).1).1⟩, 0) else (⟨s1.p, s1.l, (s1.d.write ((s1.p.frm : Int) + 8 * x.1.num) (pEnc x.1.pg).1).1⟩, (s1.d.write ((s1.p.frm : Int) + 8 * x.1.num) (pEnc x.1.pg).1).2) := by
      unfold PS.put PS.putW
      rw [hg1, decide_eq_true henc, cond_true]
    simp only [RS0, RS1, RS2, RS3, RS4, RS5, h1.hp.pg6 hi]
    refine (rencode_spec (h1.hp.it x hmem).now).mono ?_
    rintro _ w3 ⟨rfl, hf3⟩
    rw [encR_eq]
    have h3 := h1.keep0 hf3
    have hF3 := hF2.trans (up hf3) (fun _ _ e => e) (fun _ _ e => e)
    have hlen : (pEnc x.1.pg).1.length ≤ 9223372036854775807 := by
      rw [pEnc_len (by rw [← pEnc_err]; exact henc)]; omega
    have hnum := h3.hp.num hi
    have hpg := h3.hp.wf.pg
    have e1 : IntKind.i64.wrap (8 * x.1.num) = 8 * x.1.num := by rw [wrap_id]; omega
    have e2 : IntKind.i64.wrap ((s1.p.frm : Int) + 8 * x.1.num) = (s1.p.frm : Int) + 8 * x.1.num := by rw [wrap_id]; omega
    have hfd := Fm.drew (fun _ => False) w3
    have h3d := h3.keep0 hfd
    simp only [RS0, RS1, RS2, RS3, RS4, RS5, h3.hp.c0, h3.hp.c2, h3.hp.f0 hi, true_and, e1, e2]
    refine (h3d.dwrite _ _ hlen).mono ?_
    rintro _ w4 ⟨rfl, h4, hf4⟩
    have hF4 : Fm (RSf Q pb lb db fb q v vT) w w4 := Fm.step (hF3.trans (up hfd) (fun _ _ e => e) (fun _ _ e => e)) hf4 (fun y hy => RSf.new hv1 hy)
    generalize s1.d.write ((s1.p.frm : Int) + 8 * x.1.num) (pEnc x.1.pg).1 = e at h4 hput ⊢
    rw [hput]
    refine Jn_at (fun vs w' => vs = [] ∧ RStep w (RSf Q pb lb db fb q v vT) pb lb db fb (bif decide (e.2 = 0) then (⟨s1.p.lay i { x.1 with chg := false }, s1.l, e.1⟩, (0 : Int)) else (⟨s1.p, s1.l, e.1⟩, e.2)).1 w') ?_ ?_
    · rintro _ w5 ⟨rfl, h5⟩ _
      refine ⟨rfl, ?_⟩
      refine ⟨?_, h5⟩
      cases hq : decide (e.2 = 0) with
      | true =>
        rw [decide_eq_true_eq] at hq
        rw [hq]; rfl
      | false => rfl
    intro jj hjj
    simp only [RS0, RS1, RS2, RS3, RS4, RS5, beq_dec]
    cases hq : decide (e.2 = 0) with
    | true =>
      rw [hq] at hjj
      simp only [RS0, RS1, RS2, RS3, RS4, RS5]
      refine h4.setF hi ?_
      intro w5 h5 hf5
      exact hjj _ _ ⟨rfl, RSI.step1 h5 (fun y hy => RSf.new hv1 hy) (hF4.trans hf5 (fun _ _ e => e) (by rintro y _ rfl; exact .inr (.inr (.inl (.inr (.inl rfl))))))⟩
    | false =>
      rw [hq] at hjj
      simp only [RS0, RS1, RS2, RS3, RS4, RS5]
      exact hjj _ _ ⟨rfl, RSI.step1 h4 (fun y hy => RSf.new hv1 hy) hF4⟩
  intro jj hjj
  have hfd := Fm.drew (fun _ => False) w
  have hd := h.keep0 hfd
  refine ⟨fun w' => Fm (fun _ => False) w w', hfd, ?_⟩
  simp only [RS0, RS1, RS2, RS3, RS4, RS5, h.hp.c1, true_and]
  refine ⟨iv x.1.pg.lsn, fun w' h' => ?_, ?_⟩
  · simp only [RS0, RS1, RS2, RS3, RS4, RS5, (h.hp.keep0 h').f1 hi] <;> trivial
  refine (rlflushed_spec hd.hl).mono ?_
  rintro _ w2 ⟨rfl, rfl⟩
  have hF2 := hfd
  refine ⟨hF2, ?_⟩
  have h2 := h.keep0 hF2
  generalize w.drew = w2 at *
  cases hq : decide ((s.l.last : Int) ≤ x.1.pg.lsn) with
  | false =>
    rw [hq, cond_false] at hE
    simp only [RS0, RS1, RS2, RS3, RS4, RS5, hq]
    exact hjj _ _ ⟨rfl, vT, s, h2, fun y hy => .inl hy, up hF2, hE⟩
  | true =>
    rw [hq, cond_true] at hE
    have hfd2 := Fm.drew (fun _ => False) w2
    simp only [RS0, RS1, RS2, RS3, RS4, RS5, hq, h2.hp.c1, h2.hp.f1 hi, true_and]
    refine ((h2.keep0 hfd2).flush x.1.pg.lsn).mono ?_
    rintro _ w3 ⟨rfl, h3, hF3⟩
    have hF3' : Fm (RSf Q pb lb db fb q v vT) w w3 := (up (Fmf hF2 hfd2)).trans hF3 (fun _ _ e => e) (fun _ _ e => e)
    simp only [RS0, RS1, RS2, RS3, RS4, RS5, bne_dec]
    cases hz : decide ((s.l.flush x.1.pg.lsn s.d).2.2 = 0) with
    | false =>
      rw [hz, cond_false] at hE
      simp only [RS0, RS1, RS2, RS3, RS4, RS5]
      rw [hE]
      exact ⟨rfl, RSI.step1 h3 (fun y hy => .inl hy) hF3'⟩
    | true =>
      rw [hz, cond_true] at hE
      simp only [RS0, RS1, RS2, RS3, RS4, RS5]
      refine h3.synced.mono ?_
      rintro _ w4 ⟨vT4, h4, hv4, hF4⟩
      have z3 := hF3'.size
      exact hjj _ _ ⟨rfl, vT4, _, h4, fun y hy => .inr (by have := hv4 y hy; omega), hF3'.trans hF4 (fun _ _ e => e) (fun _ _ e => e), hE⟩
end

end Go.Proofs.YthbngnlmgplijaaGreatDoor

namespace Go.Proofs.YthbngnlmgplijaaGreatDoor
open Go.Al Go.Proofs
set_option linter.unusedVariables false
set_option linter.unusedSimpArgs false
set_option linter.unusedSectionVars false
set_option maxRecDepth 100000

section
variable {w w' : World} {Q S Y P : Nat → Prop} {b0 pb lb db fb cap : Nat} {q : DkL} {v vT : Value} {F : List PV} {ys : List Value} {s : PS} {p : Pl}
theorem RSI.lay (h : RSI w Q b0 pb lb db fb cap q v vT F ys s) {i : Nat} (hi : i < F.length) {x : PV} (hx : HeldP w P x.2 x.1.pg) (hP : ∀ y, P y → ¬ q.mine db y ∧ ¬ RL.mine lb v y ∧ ¬ RPw pb fb vT y ∧ y < w.heap.size)
    (h1 : x.2.oneCell' = true) (hn : x.1.num = -1 ∨ (0 ≤ x.1.num ∧ x.1.num < (s.p.pages : Int))) (he : x.1.chg = true → (pEnc x.1.pg).2 = 0) {k : KV}
    (hk : ∀ w', RSI w' (fun y => Q y ∨ P y) b0 pb lb db fb cap q v vT (F.set i x) ys (s.lay i x.1) → Fm (· = fb) w w' → k undef w') :
    St 8 w (.pointer (some ⟨fb, i * 8, none⟩)) (.agg (rfr x).toArray) k := by
  have hp := h.hp
  have hfl := flat_len rfr_len F
  refine St_blkN hp.fr rfl (by rw [List.size_toArray, List.length_append, hfl]; omega) (rfr_one h1) ?_
  intro w' hw' hs' hf'
  have hrl : (rfr x).length = 8 := rfl
  rw [show (rfr x).toArray.toList = rfr x from rfl, ov_eq _ _ _ (by rw [List.size_toArray, List.length_append, hfl, hrl]; omega)] at hw'
  replace hw' : w'.heap[fb]? = some (.cells ((F.set i x).flatMap rfr ++ ys).toArray 172) := by
    rw [hw', flat_split rfr_len F i x hi]
    congr 3
    rw [List.take_append_of_le_length (by rw [hfl]; omega), List.drop_append_of_le_length (by rw [hfl, hrl]; omega)]
    simp [hrl]
  have hfb : ∀ y, Q y → ¬ y = fb := by rintro y hy rfl; exact (hp.qs _ hy).2 (.inr (.inl rfl))
  have hfb2 : ∀ y, P y → ¬ y = fb := by rintro y hy rfl; exact (hP _ hy).2.2.1 (.inr (.inl rfl))
  refine hk w' ⟨h.hd.keep hf' (fun y hy e => (h.a1 hy).2 (.inr (.inl e))), h.dw, h.hl.keep hf' (fun y hy e => h.a2 hy (.inr (.inl e))), ⟨?_, hw', own_keep hp.tb hf' (fun y _ _ hy e => hp.tf (by rw [hy, e])), ?_, ?_, ?_, hp.wf.lay hn, hp.inc, hp.rng, ?_⟩, ?_, by rw [hs']; exact h.hb⟩ hf'
  · rw [List.length_set]; exact hf'.heap hp.st hp.pf
  · rw [List.map_set, hp.fs]; rfl
  · intro z hz
    rcases List.mem_or_eq_of_mem_set hz with hz | rfl
    · exact ((hp.it z hz).keep hf' hfb).mono (fun y hy => .inl hy)
    · exact (hx.keep hf' hfb2).mono (fun y hy => .inr hy)
  · rintro y (hy | hy)
    · exact ⟨by have := (hp.qs y hy).1; omega, (hp.qs y hy).2⟩
    · exact ⟨by have := (hP y hy).2.2.2; omega, (hP y hy).2.2.1⟩
  · intro f hf hc
    rcases List.mem_or_eq_of_mem_set hf with hf | rfl
    · exact hp.enc f hf hc
    · exact he hc
  · rintro y (hy | hy)
    · exact h.qd y hy
    · exact ⟨(hP y hy).1, (hP y hy).2.1⟩
theorem hold_neg (hw : p.Wf) {i : Nat} (hil : i ≤ p.fr.length) (hno : ∀ (j : Nat) (f : Pf), j < i → p.fr[j]? = some f → ¬ f.num < 0) : (∀ f, p.fr[i]? = some f → f.num < 0 → p.hold (-1) = some i) ∧ (i = p.fr.length → p.hold (-1) = none) := by
  have hne : ∀ (j : Nat) (f : Pf), j < i → p.fr[j]? = some f → f.num ≠ -1 := fun j f hj hf e => hno j f hj hf (by omega)
  constructor
  · intro f hf hn
    obtain ⟨hl, e⟩ := List.getElem?_eq_some_iff.1 hf
    unfold Pl.hold
    rw [List.findIdx?_eq_some_iff_getElem]
    refine ⟨hl, ?_, fun j hj => ?_⟩
    · rw [decide_eq_true_eq, e]
      rcases hw.nums f (List.mem_of_getElem? hf) with q | q <;> omega
    · have := hne j _ hj (List.getElem?_eq_getElem (by omega))
      simpa using this
  · intro hi
    unfold Pl.hold
    rw [List.findIdx?_eq_none_iff]
    intro f hf
    obtain ⟨j, hj⟩ := List.getElem?_of_mem hf
    have hjl := (List.getElem?_eq_some_iff.1 hj).1
    simpa using hne j f (by omega) hj
set_option maxHeartbeats 4000000 in
theorem rptake_spec (h : RSI w Q b0 pb lb db fb cap q v vT F ys s) (pick : Int) :
    Cl Tryz.prog 128 [pv pb, iv pick] w fun r w' => r = .tuple #[iv ((s.take pick).2.1 : Nat), iv (s.take pick).2.2] ∧ RStep w (RSf Q pb lb db fb q v vT) pb lb db fb (s.take pick).1 w' ∧ ((s.take pick).2.2 = 0 → (s.take pick).2.1 < (s.take pick).1.p.fr.length) := by
  have hfl := h.hp.flen
  have hlen := h.hp.len
  have hn0 : ∀ {a b : World}, Fm (fun _ => False) a b → Fm (RSf Q pb lb db fb q v vT) a b := fun hf => hf.mono (fun _ _ e => e.elim)
  refine c128 ?_; unfold T128
  refine ⟨fun vs w' => ∃ i : Nat, vs = [iv (i : Int)] ∧ i ≤ F.length ∧ (∀ (j : Nat) (f : Pf), j < i → s.p.fr[j]? = some f → ¬ f.num < 0) ∧ w' = w, fun vs _ => (F.length - nth vs 0).toNat, ⟨0, rfl, by omega, (fun j f hj => by omega), rfl⟩, ?_⟩
  rintro _ w2 ivv ⟨i, hvs, hi, hno, rfl⟩
  cases hvs
  obtain ⟨hs1, hs2⟩ := hold_neg h.hp.wf (by omega) hno
  by_cases hl : i < F.length
  · have d1 : decide ((i : Int) < (F.length : Int)) = true := by rw [decide_eq_true_eq]; omega
    have e1 : IntKind.i64.wrap ((i : Int) + 1) = ((i + 1 : Nat) : Int) := by rw [wrap_id] <;> omega
    have hx : F[i]? = some F[i] := List.getElem?_eq_getElem hl
    generalize F[i] = x at hx
    obtain ⟨g1, _⟩ := h.hp.frg hx
    simp only [RS0, RS1, RS2, RS3, RS4, RS5, h.hp.c4, d1, RP.ix i hl fb, h.hp.f0 hx]
    cases hq : decide (x.1.num < 0) with
    | true =>
      rw [decide_eq_true_eq] at hq
      have hh := hs1 x.1 g1 hq
      have ht : s.take pick = (s, i, 0) := by unfold PS.take; rw [hh]
      rw [ht]
      simp only [RS0, RS1, RS2, RS3, RS4, RS5]
      exact ⟨(by trivial), RSI.step1 h (fun y hy => .inl hy) (Fm.refl _ _), fun _ => by show i < s.p.fr.length; omega⟩
    | false =>
      rw [decide_eq_false_iff_not] at hq
      simp only [RS0, RS1, RS2, RS3, RS4, RS5, e1]
      refine ⟨⟨i + 1, rfl, by omega, fun j f hj hf => ?_, (by trivial)⟩, by simp only [nth_0]; omega⟩
      by_cases hji : j = i
      · subst hji
        rw [g1] at hf; cases hf; exact hq
      · exact hno j f (by omega) hf
  · have d1 : decide ((i : Int) < (F.length : Int)) = false := by rw [decide_eq_false_iff_not]; omega
    have hh := hs2 (by omega)
    clear hs1 hs2 hno hi hl
    have hpk : PS.pickAt s.p.fr.length pick = modN F.length pick := by unfold PS.pickAt; rw [hlen]
    have hE : s.take pick = bif (s.p.get (modN F.length pick)).chg then
        (bif decide ((s.write1 (modN F.length pick)).2 = 0) then ((s.write1 (modN F.length pick)).1.lay (modN F.length pick) pf0, modN F.length pick, 0)
         else ((s.write1 (modN F.length pick)).1, 0, (s.write1 (modN F.length pick)).2))
      else (s.lay (modN F.length pick) pf0, modN F.length pick, 0) := by unfold PS.take; rw [hh, hpk]
    have m1 := rem_i64 (TypeDesc.int IntKind.i64) (a := pick) (b := (F.length : Int)) (by omega) (by omega)
    obtain ⟨n1, n2, n3, n4⟩ := modN_lt (n := F.length) (by omega) pick
    have hmod : (modN F.length pick : Int) = if pick.tmod (F.length : Int) < 0 then pick.tmod (F.length : Int) + (F.length : Int) else pick.tmod (F.length : Int) := by
      rw [← n2]
      by_cases hr : pick.tmod (F.length : Int) < 0
      · rw [if_pos hr, Int.tmod_eq_of_lt (by omega) (by omega)]
      · rw [if_neg hr, Int.tmod_eq_emod_of_nonneg (by omega), Int.add_emod_right, Int.emod_eq_of_lt (by omega) (by omega)]
    simp only [RS0, RS1, RS2, RS3, RS4, RS5, h.hp.c4, d1, m1]
    generalize modN F.length pick = i at hE n1 hmod
    have hx : F[i]? = some F[i] := List.getElem?_eq_getElem n1
    generalize F[i] = x at hx
    rw [(h.hp.frg hx).2] at hE
    refine Jn_at (fun vs w' => vs = [iv (i : Int)] ∧ w' = w2) ?_ ?_
    · rintro _ w1 ⟨rfl, rfl⟩ _
      refine ⟨_, rfl, ?_⟩
      refine Jn_at (fun vs w4 => vs = [] ∧ ∃ s1, RStep w1 (RSf Q pb lb db fb q v vT) pb lb db fb s1 w4 ∧ s1.p.fr.length = s.p.fr.length ∧ s.take pick = (s1.lay i pf0, i, 0)) ?_ ?_
      · rintro _ w4 ⟨rfl, s1, hst, hl1, he⟩ _
        refine ⟨rfl, ?_⟩
        rw [he]
        obtain ⟨⟨Y1, ⟨Q1, b1, cap1, q1, v1, vT1, F1, ys1, h4, hY1, hY2⟩, g1⟩, f1⟩ := hst
        have hl4 := h4.hp.len
        simp only [RS0, RS1, RS2, RS3, RS4, RS5, h4.hp.c4]
        refine RunS_ok (bld172z _) ?_
        simp only [RS0, RS1, RS2, RS3, RS4, RS5, RP.ix i (show i < F1.length by omega) fb]
        refine h4.lay (P := fun _ => False) (show i < F1.length by omega) (x := (pf0, nlv)) (HeldP.zero _ _) (fun _ e => e.elim) rfl (.inl rfl) (fun e => by cases e) ?_
        intro w5 h5 hf5
        refine ⟨(by trivial), RSI.step1 h5 ?_ (Fm.step f1 hf5 ?_), fun _ => by show i < (s1.p.lay i pf0).fr.length; rw [Pl.lay_len]; omega⟩
        · intro y hy
          refine g1 y (hY1 y ?_)
          rcases hy with e | e | e | (e | e)
          · exact .inl e
          · exact .inr (.inl e)
          · exact .inr (.inr (.inl e))
          · exact .inr (.inr (.inr e))
          · exact e.elim
        · rintro y rfl
          exact g1 _ (hY1 _ (.inr (.inr (.inl (.inr (.inl rfl))))))
      · intro jj hjj
        simp only [RS0, RS1, RS2, RS3, RS4, RS5, h.hp.c4, RP.ix i n1 fb, h.hp.f7 hx]
        cases hc : x.1.chg with
        | false =>
          rw [hc, cond_false] at hE
          simp only [RS0, RS1, RS2, RS3, RS4, RS5]
          exact hjj _ _ ⟨rfl, s, RSI.step1 h (fun y hy => .inl hy) (Fm.refl _ _), rfl, hE⟩
        | true =>
          rw [hc, cond_true] at hE
          simp only [RS0, RS1, RS2, RS3, RS4, RS5]
          refine (rpwrites_spec h hx hc).mono ?_
          rintro _ w3 ⟨rfl, hst⟩
          simp only [RS0, RS1, RS2, RS3, RS4, RS5, bne_dec]
          cases hq : decide ((s.write1 i).2 = 0) with
          | true =>
            rw [hq, cond_true] at hE
            simp only [RS0, RS1, RS2, RS3, RS4, RS5]
            exact hjj _ _ ⟨rfl, (s.write1 i).1, hst, (write1_len s i).1, hE⟩
          | false =>
            rw [hq, cond_false] at hE
            rw [decide_eq_false_iff_not] at hq
            rw [hE]
            simp only [RS0, RS1, RS2, RS3, RS4, RS5]
            exact ⟨(by trivial), hst, fun e => absurd e hq⟩
    · intro jj hjj
      by_cases hr : pick.tmod (F.length : Int) < 0
      · have d2 : decide (pick.tmod (F.length : Int) < 0) = true := by simpa using hr
        rw [if_pos hr] at hmod
        have e3 : IntKind.i64.wrap (pick.tmod (F.length : Int) + (F.length : Int)) = (i : Int) := by rw [hmod, wrap_id]; omega
        simp only [RS0, RS1, RS2, RS3, RS4, RS5, d2, h.hp.c4, e3]
        exact hjj _ _ ⟨rfl, rfl⟩
      · have d2 : decide (pick.tmod (F.length : Int) < 0) = false := by simpa using hr
        rw [if_neg hr] at hmod
        simp only [RS0, RS1, RS2, RS3, RS4, RS5, d2]
        rw [← hmod]
        exact hjj _ _ ⟨rfl, rfl⟩
end

end Go.Proofs.YthbngnlmgplijaaGreatDoor

namespace Go.Proofs.YthbngnlmgplijaaGreatDoor
open Go.Al Go.Proofs
set_option linter.unusedVariables false
set_option linter.unusedSimpArgs false
set_option linter.unusedSectionVars false
set_option maxRecDepth 100000

section
variable {w w' : World} {Q S Y P : Nat → Prop} {b0 pb lb db fb cap : Nat} {q : DkL} {v vT : Value} {F : List PV} {ys : List Value} {s : PS} {p : Pl}
theorem RSI.stay (h : RSI w Q b0 pb lb db fb cap q v vT F ys s) (hf : Fm (fun _ => False) w w') : RStep w (RSf Q pb lb db fb q v vT) pb lb db fb s w' :=
  RSI.step1 (h.keep0 hf) (fun y hy => .inl hy) (hf.mono (fun _ _ e => e.elim))
theorem rpwrite_spec (h : RSI w Q b0 pb lb db fb cap q v vT F ys s) (n : Int) :
    Cl Tryz.prog 53 [pv pb, iv n] w fun r w' => r = iv (s.write n).2 ∧ RStep w (RSf Q pb lb db fb q v vT) pb lb db fb (s.write n).1 w' := by
  have hrefl : RStep w (RSf Q pb lb db fb q v vT) pb lb db fb s w := h.stay (Fm.refl _ _)
  refine c53 ?_; unfold T53
  have hE : s.write n = bif decide (n < 0) || decide ((s.p.pages : Int) ≤ n) then (s, 4) else (match s.p.hold n with
    | some i => bif (s.p.get i).chg then s.write1 i else (s, 0)
    | none => (s, 0)) := by
    unfold PS.write Pl.known
    cases decide (n < 0) || decide ((s.p.pages : Int) ≤ n) <;> rfl
  cases h1 : decide (n < 0) with
  | true =>
    rw [h1, Bool.true_or, cond_true] at hE
    rw [hE]
    simp only [RS0, RS1, RS2, RS3, RS4, RS5, h1]
    exact ⟨(by trivial), hrefl⟩
  | false =>
  cases h2 : decide ((s.p.pages : Int) ≤ n) with
  | true =>
    rw [h1, h2, Bool.false_or, cond_true] at hE
    rw [hE]
    simp only [RS0, RS1, RS2, RS3, RS4, RS5, h1, h.hp.c3, h2]
    exact ⟨(by trivial), hrefl⟩
  | false =>
  rw [h1, h2, Bool.false_or, cond_false] at hE
  simp only [RS0, RS1, RS2, RS3, RS4, RS5, h1, h.hp.c3, h2]
  refine (rpat_spec h.hp n).mono ?_
  rintro _ w2 ⟨rfl, rfl⟩
  cases hh : s.p.hold n with
  | none =>
    rw [hh] at hE
    simp only at hE
    rw [hE]
    have d2 : decide (holdI none < 0) = true := rfl
    simp only [RS0, RS1, RS2, RS3, RS4, RS5, d2]
    exact ⟨(by trivial), hrefl⟩
  | some k =>
    rw [hh] at hE
    simp only at hE
    obtain ⟨y, hy, hyn, hkl⟩ := h.hp.held hh
    rw [(h.hp.frg hy).2] at hE
    have d2 : decide ((k : Int) < 0) = false := by rw [decide_eq_false_iff_not]; omega
    have e3 : holdI (some k) = (k : Int) := rfl
    simp only [RS0, RS1, RS2, RS3, RS4, RS5, e3, d2, h.hp.c4, RP.ix k hkl fb, h.hp.f7 hy]
    cases hc : y.1.chg with
    | false =>
      rw [hc, cond_false] at hE
      rw [hE]
      simp only [RS0, RS1, RS2, RS3, RS4, RS5, Bool.not_false]
      exact ⟨(by trivial), hrefl⟩
    | true =>
      rw [hc, cond_true] at hE
      rw [hE]
      simp only [RS0, RS1, RS2, RS3, RS4, RS5, Bool.not_true]
      refine (rpwrites_spec h hy hc).mono ?_
      rintro _ w3 ⟨rfl, hst⟩
      try simp only [RS0, RS1, RS2, RS3, RS4, RS5]
      exact ⟨(by trivial), hst⟩
set_option maxHeartbeats 8000000 in
theorem rpfetch_spec (h : RSI w Q b0 pb lb db fb cap q v vT F ys s) (n pick : Int) :
    Cl Tryz.prog 50 [pv pb, iv n, iv pick] w fun r w' => ∃ u, r = .tuple #[.agg (pcs (s.fetch n pick).2.1 u), iv (s.fetch n pick).2.2] ∧ PgOw w' w.heap.size (pcs (s.fetch n pick).2.1 u) (s.fetch n pick).2.1 ∧ RStep w (RSf Q pb lb db fb q v vT) pb lb db fb (s.fetch n pick).1 w' := by
  have hE : s.fetch n pick = bif decide (n < 0) || decide ((s.p.pages : Int) ≤ n) then (s, pg0, 4) else (match s.p.hold n with
    | some i => (s, (s.p.get i).pg, 0)
    | none =>
      bif decide ((s.raw n).2 = 0) then
        (bif decide ((pDec (s.raw n).1).2 = 0) then
          (bif decide ((s.take pick).2.2 = 0) then ((s.take pick).1.lay (s.take pick).2.1 ⟨(pDec (s.raw n).1).1, n, false⟩, (pDec (s.raw n).1).1, 0)
           else ((s.take pick).1, pg0, (s.take pick).2.2))
         else (s, pg0, 60))
      else (s, pg0, (s.raw n).2)) := by
    unfold PS.fetch Pl.known
    cases decide (n < 0) || decide ((s.p.pages : Int) ≤ n) <;> rfl
  refine c50 ?_; unfold T50
  rw [pg0_cells]
  refine New_any ?_
  intro x1 w1 hx1 hs1 hw1 hf1
  have h1 := h.keep0 hf1
  have hlt := h.lt
  have hz1 := hf1.size
  have hnx : ¬ RSf Q pb lb db fb q v vT x1 := fun e => by have := hlt _ e; omega
  have up : ∀ {a b : World}, Fm (fun _ => False) a b → Fm (RSf Q pb lb db fb q v vT) a b := fun hf => hf.mono (fun _ _ e => e.elim)
  have fin : ∀ {wz : World} {Q' : Nat → Prop} {b0' cap' : Nat} {q' : DkL} {v' vT' : Value} {F' : List PV} {ys' : List Value} {s' : PS} {pg : Pg} {u : Value} {er : Int}, RSI wz Q' b0' pb lb db fb cap' q' v' vT' F' ys' s' →
      (∀ y, RSf Q' pb lb db fb q' v' vT' y → RSf Q pb lb db fb q v vT y ∨ w.heap.size ≤ y) → Fm (RSf Q pb lb db fb q v vT) w wz → wz.heap[x1]? = some (.cells (pcs pg0 nlv) 61) → ¬ RSf Q' pb lb db fb q' v' vT' x1 → PgOw wz w.heap.size (pcs pg u) pg → s.fetch n pick = (s', pg, er) →
      St 6 wz (pv x1) (.agg (pcs pg u)) fun u_8 w_9 => RetO (resL Tryz.prog (fun j => bif Nat.beq j 6 then pv x1 else bif Nat.beq j 7 then iv er else undef) w_9 [(ResultVar.cell 6 61), (ResultVar.tmp 7)]) w_9 (fun r w' => ∃ u, r = .tuple #[.agg (pcs (s.fetch n pick).2.1 u), iv (s.fetch n pick).2.2] ∧ PgOw w' w.heap.size (pcs (s.fetch n pick).2.1 u) (s.fetch n pick).2.1 ∧ RStep w (RSf Q pb lb db fb q v vT) pb lb db fb (s.fetch n pick).1 w') := by
    intro wz Q' b0' cap' q' v' vT' F' ys' s' pg u er hz hg hF hw2 hno ho he
    rw [he]
    obtain ⟨u', hu', hou⟩ := ho.ex
    have hu'' := pcs_inj hu'
    subst hu''
    refine St_all hw2 rfl rfl (pcs_one (own_one hou)) ?_
    intro w3 hw3 hs3 hf3
    refine retPf hw3 rfl ⟨u, rfl, ⟨⟨u, rfl, own_keep hou hf3 (fun k _ _ hk e => ?_)⟩, ho.small, ho.ins⟩, RSI.step1 (hz.keep hf3 (by rintro y hy rfl; exact hno hy)) hg (Fm.step hF hf3 (by rintro y rfl; exact .inr (by omega)))⟩
    have := tyAt_own hou hk
    rw [e, tyAt_of hw2] at this
    exact absurd (Option.some.inj this) (by decide)
  have bad : ∀ {wz : World} {Q' : Nat → Prop} {b0' cap' : Nat} {q' : DkL} {v' vT' : Value} {F' : List PV} {ys' : List Value} {s' : PS} {er : Int}, RSI wz Q' b0' pb lb db fb cap' q' v' vT' F' ys' s' →
      (∀ y, RSf Q' pb lb db fb q' v' vT' y → RSf Q pb lb db fb q v vT y ∨ w.heap.size ≤ y) → Fm (RSf Q pb lb db fb q v vT) w wz → wz.heap[x1]? = some (.cells (pcs pg0 nlv) 61) → ¬ RSf Q' pb lb db fb q' v' vT' x1 → s.fetch n pick = (s', pg0, er) →
      RunS Tryz.prog (Instr.build 61 #[]) wz fun t w_7 => St 6 w_7 (pv x1) t fun u_8 w_9 => RetO (resL Tryz.prog (fun j => bif Nat.beq j 6 then pv x1 else bif Nat.beq j 7 then iv er else undef) w_9 [(ResultVar.cell 6 61), (ResultVar.tmp 7)]) w_9 (fun r w' => ∃ u, r = .tuple #[.agg (pcs (s.fetch n pick).2.1 u), iv (s.fetch n pick).2.2] ∧ PgOw w' w.heap.size (pcs (s.fetch n pick).2.1 u) (s.fetch n pick).2.1 ∧ RStep w (RSf Q pb lb db fb q v vT) pb lb db fb (s.fetch n pick).1 w') := by
    intro wz Q' b0' cap' q' v' vT' F' ys' s' er hz hg hF hw2 hno he
    refine RunS_ok (bld24z _) ?_
    exact fin hz hg hF hw2 hno (PgOw.zero _ _) he
  cases g1 : decide (n < 0) with
  | true =>
    rw [g1, Bool.true_or, cond_true] at hE
    simp only [RS0, RS1, RS2, RS3, RS4, RS5, g1]
    exact bad h1 (fun y hy => .inl hy) (up hf1) hw1 hnx hE
  | false =>
  cases g2 : decide ((s.p.pages : Int) ≤ n) with
  | true =>
    rw [g1, g2, Bool.false_or, cond_true] at hE
    simp only [RS0, RS1, RS2, RS3, RS4, RS5, g1, h1.hp.c3, g2]
    exact bad h1 (fun y hy => .inl hy) (up hf1) hw1 hnx hE
  | false =>
  rw [g1, g2, Bool.false_or, cond_false] at hE
  simp only [RS0, RS1, RS2, RS3, RS4, RS5, g1, h1.hp.c3, g2]
  rw [decide_eq_false_iff_not] at g1 g2
  have hpg := h.hp.wf.pg
  refine (rpat_spec h1.hp n).mono ?_
  rintro _ w1 ⟨rfl, rfl⟩
  cases hh : s.p.hold n with
  | some k =>
    rw [hh] at hE
    simp only at hE
    obtain ⟨y, hy, hyn, hkl⟩ := h1.hp.held hh
    rw [(h1.hp.frg hy).2] at hE
    have hit := h1.hp.it y (List.mem_of_getElem? hy)
    have d2 : decide ((0 : Int) ≤ (k : Int)) = true := by rw [decide_eq_true_eq]; omega
    have e3 : holdI (some k) = (k : Int) := rfl
    simp only [RS0, RS1, RS2, RS3, RS4, RS5, e3, d2, h1.hp.c4, RP.ix k hkl fb, h1.hp.pg6 hy]
    refine (copied_spec hit).mono ?_
    rintro _ w3 ⟨cs, rfl, ho, hf3⟩
    obtain ⟨u, rfl, hou⟩ := ho.ex
    have hF3 := Fmf hf1 hf3
    exact fin (h1.keep0 hf3) (fun y hy => .inl hy) (up hF3) (hf3.heap hw1 (fun e => e)) hnx ⟨⟨u, rfl, own_base hou hf1.size⟩, ho.small, ho.ins⟩ hE
  | none =>
    rw [hh] at hE
    simp only at hE
    have d2 : decide ((0 : Int) ≤ holdI none) = false := rfl
    have hfd := Fm.drew (fun _ => False) w1
    have e1 : IntKind.i64.wrap (8 * n) = 8 * n := by rw [wrap_id]; omega
    have e2 : IntKind.i64.wrap ((s.p.frm : Int) + 8 * n) = (s.p.frm : Int) + 8 * n := by rw [wrap_id]; omega
    have h2 := h1.keep0 hfd
    have hw2 := hfd.heap hw1 (fun e => e)
    simp only [RS0, RS1, RS2, RS3, RS4, RS5, d2, h1.hp.c0, h1.hp.c2, true_and, e1, e2]
    refine (rdread_spec h2.hd h2.dw _ _).mono ?_
    rintro _ w3 ⟨rfl, hf3⟩
    have h3 := h2.keep0 hf3
    have hw3 := hf3.heap hw2 (fun e => e)
    have hF3 := Fmf hf1 (Fmf hfd hf3)
    have hraw : s.raw n = s.d.read ((s.p.frm : Int) + 8 * n) 8 := rfl
    rw [hraw] at hE
    have hrl := read_le h.dw ((s.p.frm : Int) + 8 * n) 8
    generalize s.d.read ((s.p.frm : Int) + 8 * n) 8 = rd at hE hrl
    simp only [RS0, RS1, RS2, RS3, RS4, RS5, bne_dec]
    cases hq : decide (rd.2 = 0) with
    | false =>
      rw [hq, cond_false] at hE
      simp only [RS0, RS1, RS2, RS3, RS4, RS5]
      exact bad h3 (fun y hy => .inl hy) (up hF3) hw3 hnx hE
    | true =>
    rw [hq, cond_true] at hE
    simp only [RS0, RS1, RS2, RS3, RS4, RS5]
    refine (rdecode_spec w3 rd.1 (by omega)).mono ?_
    rintro _ w4 ⟨cs, rfl, ho4, hf4⟩
    obtain ⟨u, rfl, hou⟩ := ho4.ex
    have h4 := h3.keep0 hf4
    have hw4 := hf4.heap hw3 (fun e => e)
    have hF4 := Fmf hF3 hf4
    have z3 := hF3.size
    have z4 := hF4.size
    simp only [RS0, RS1, RS2, RS3, RS4, RS5]
    refine New_any ?_
    intro x2 w5 hx2 hs5 hw5 hf5
    refine St_all hw5 rfl rfl (pcs_one (own_one hou)) ?_
    intro w6 hw6 hs6 hf6
    have hf46 : Fm (fun _ => False) w4 w6 := Fm.own hf5 hf6 (by rintro y rfl; omega)
    have h6 := h4.keep0 hf46
    have hw6' := hf46.heap hw4 (fun e => e)
    have hF6 := Fmf hF4 hf46
    have hou6 := own_keep hou hf46 (fun _ _ _ _ e => e)
    have hul := own_lt hou
    simp only [RS0, RS1, RS2, RS3, RS4, RS5, bne_dec]
    cases hq2 : decide ((pDec rd.1).2 = 0) with
    | false =>
      rw [hq2, cond_false] at hE
      simp only [RS0, RS1, RS2, RS3, RS4, RS5]
      exact bad h6 (fun y hy => .inl hy) (up hF6) hw6' hnx hE
    | true =>
    rw [hq2, cond_true] at hE
    simp only [RS0, RS1, RS2, RS3, RS4, RS5]
    refine (rptake_spec h6 pick).mono ?_
    rintro _ w7 ⟨rfl, hst, hlt7⟩
    obtain ⟨⟨Y1, ⟨Q1, b1, cap1, q1, v1, vT1, F1, ys1, h7, hY1, hY2⟩, gg1⟩, f7⟩ := hst
    have z6 := hF6.size
    have z46 := hf46.size
    have hg7 : ∀ y, RSf Q1 pb lb db fb q1 v1 vT1 y → RSf Q pb lb db fb q v vT y ∨ w6.heap.size ≤ y := fun y hy => gg1 y (hY1 y hy)
    have hg7' : ∀ y, RSf Q1 pb lb db fb q1 v1 vT1 y → RSf Q pb lb db fb q v vT y ∨ w.heap.size ≤ y := fun y hy => (hg7 y hy).imp id (fun e => by omega)
    have hF7 : Fm (RSf Q pb lb db fb q v vT) w w7 := (up hF6).trans f7 (fun _ _ e => e) (fun _ _ e => e)
    have hx1l := lt_of_heap hw6'
    have hx2l := lt_of_heap hw6
    have hnf : ∀ {y : Nat}, w.heap.size ≤ y → ¬ RSf Q pb lb db fb q v vT y := fun hy e => by have := hlt _ e; omega
    have hn7 : ∀ {y : Nat}, w.heap.size ≤ y → y < w6.heap.size → ¬ RSf Q1 pb lb db fb q1 v1 vT1 y := fun hy hy2 e => by
      rcases hg7 _ e with e | e
      · exact hnf hy e
      · omega
    have hw7 := f7.heap hw6' (hnf (by omega))
    have hw7b := f7.heap hw6 (hnf (by omega))
    have hou7 := own_keep hou6 f7 (fun y _ _ hy => hnf (by have := hul y hy; omega))
    simp only [RS0, RS1, RS2, RS3, RS4, RS5, bne_dec]
    cases hq3 : decide ((s.take pick).2.2 = 0) with
    | false =>
      rw [hq3, cond_false] at hE
      simp only [RS0, RS1, RS2, RS3, RS4, RS5]
      exact bad h7 hg7' hF7 hw7 (hn7 (by omega) hx1l) hE
    | true =>
    rw [hq3, cond_true] at hE
    have hil := hlt7 (of_decide_eq_true hq3)
    have hlen7 := h7.hp.len
    generalize hti : (s.take pick).2.1 = i at hE hil
    generalize hts : (s.take pick).1 = s1 at hE hil h7 hlen7
    have hpages : s1.p.pages = s.p.pages := by rw [← hts]; exact (take_len s pick).1
    have hil' : i < F1.length := by omega
    have hfd7 := Fm.drew (fun _ => False) w7
    have h7d := h7.keep0 hfd7
    have hw7d := hfd7.heap hw7b (fun e => e)
    obtain ⟨ua, uj, uc, hsl⟩ := PgAs.sl ho4.as
    have hsl' := pcs_inj hsl
    subst hsl'
    have hrow7d := own_keep hou7 hfd7 (fun _ _ _ _ e => e)
    have hPg7d : PgOw w7.drew w3.heap.size (pcs (pDec rd.1).1 (.slice ua uj uc)) (pDec rd.1).1 := ⟨⟨_, rfl, hrow7d⟩, ho4.small, ho4.ins⟩
    have hheld : HeldP w7.drew (fun y => (Value.slice ua uj uc).ownBlock = some y) (.slice ua uj uc) (pDec rd.1).1 := HeldP.of_own hPg7d (fun y hy => hy)
    simp only [RS0, RS1, RS2, RS3, RS4, RS5, h7.hp.c4, true_and, cellsV_blk hw7d (show (pcs (pDec rd.1).1 (.slice ua uj uc)).size = 6 from rfl)]
    refine RunS_ok (bld172a _ _ _ _ _ _) ⟨rfl, ?_⟩
    simp only [RS0, RS1, RS2, RS3, RS4, RS5, RP.ix i hil' fb]
    refine h7d.lay (P := fun y => (Value.slice ua uj uc).ownBlock = some y) hil' (x := (⟨(pDec rd.1).1, n, false⟩, .slice ua uj uc)) hheld (fun y hy => ?_) rfl (.inr ⟨by show 0 ≤ n; omega, by show n < (s1.p.pages : Int); omega⟩) (fun e => by cases e) ?_
    · have hyl := hul y hy
      have hno := hn7 (y := y) (by omega) (by omega)
      exact ⟨fun e => hno (.inl e), fun e => hno (.inr (.inl e)), fun e => hno (.inr (.inr (.inl e))), (own_lt hrow7d y hy).2⟩
    intro w8 h8 hf8
    have hfbx : ∀ {y : Nat}, y = fb → RSf Q1 pb lb db fb q1 v1 vT1 y := fun e => .inr (.inr (.inl (.inr (.inl e))))
    have hw8b := hf8.heap hw7d (fun e => hn7 (by omega) hx2l (hfbx e))
    have hw8 := hf8.heap (hfd7.heap hw7 (fun e => e)) (fun e => hn7 (by omega) hx1l (hfbx e))
    have hrow8 := own_keep hrow7d hf8 (fun y _ _ hy e => hn7 (by have := hul y hy; omega) (by have := (hul y hy).2; omega) (hfbx e))
    have hF8 : Fm (RSf Q pb lb db fb q v vT) w w8 := Fm.step (hF7.trans (up hfd7) (fun _ _ e => e) (fun _ _ e => e)) hf8 (fun y e => hg7' y (hfbx e))
    have hheld8 : HeldP w8 (fun y => (Value.slice ua uj uc).ownBlock = some y) (.slice ua uj uc) (pDec rd.1).1 := HeldP.of_own (b := w3.heap.size) ⟨⟨_, rfl, hrow8⟩, ho4.small, ho4.ins⟩ (fun y hy => hy)
    simp only [RS0, RS1, RS2, RS3, RS4, RS5, cellsV_blk hw8b (show (pcs (pDec rd.1).1 (.slice ua uj uc)).size = 6 from rfl)]
    refine (copied_spec hheld8).mono ?_
    rintro _ w9 ⟨cs, rfl, ho, hf9⟩
    obtain ⟨u9, rfl, hou9⟩ := ho.ex
    have hgn : ∀ y, RSf (fun y => Q1 y ∨ (Value.slice ua uj uc).ownBlock = some y) pb lb db fb q1 v1 vT1 y → RSf Q1 pb lb db fb q1 v1 vT1 y ∨ (Value.slice ua uj uc).ownBlock = some y := by
      rintro y (e | e | e | e | e)
      · exact .inl (.inl e)
      · exact .inl (.inr (.inl e))
      · exact .inl (.inr (.inr (.inl e)))
      · exact .inl (.inr (.inr (.inr e)))
      · exact .inr e
    refine fin (h8.keep0 hf9) (fun y hy => ?_) (hF8.trans (up hf9) (fun _ _ e => e) (fun _ _ e => e)) (hf9.heap hw8 (fun e => e)) (fun e => ?_) ⟨⟨u9, rfl, own_base hou9 hF8.size⟩, ho.small, ho.ins⟩ hE
    · rcases hgn y hy with e | e
      · exact hg7' y e
      · exact .inr (by have := hul y e; omega)
    · rcases hgn _ e with e | e
      · exact hn7 (by omega) hx1l e
      · have := tyAt_own hrow8 e
        rw [tyAt_of hw8] at this
        exact absurd (Option.some.inj this) (by decide)
end

end Go.Proofs.YthbngnlmgplijaaGreatDoor

namespace Go.Proofs.YthbngnlmgplijaaGreatDoor
open Go.Al Go.Proofs
set_option linter.unusedVariables false
set_option linter.unusedSimpArgs false
set_option linter.unusedSectionVars false
set_option maxRecDepth 100000

def insO (n l : Int) : List (Int × Int) → List (Int × Int)
  | [] => [(n, l)]
  | x :: D => if x.1 < n then x :: insO n l D else (n, l) :: x :: D
theorem insO_mem {n l : Int} : ∀ {D : List (Int × Int)} {y : Int × Int}, y ∈ insO n l D ↔ y = (n, l) ∨ y ∈ D
  | [], y => by simp [insO]
  | x :: D, y => by
    unfold insO
    by_cases h : x.1 < n
    · rw [if_pos h, List.mem_cons, insO_mem, List.mem_cons]
      constructor
      · rintro (e | e | e)
        · exact .inr (.inl e)
        · exact .inl e
        · exact .inr (.inr e)
      · rintro (e | e | e)
        · exact .inr (.inl e)
        · exact .inl e
        · exact .inr (.inr e)
    · rw [if_neg h]; simp
theorem insO_inc {n l : Int} : ∀ {D : List (Int × Int)}, (D.map (·.1)).Pairwise (· < ·) → (∀ x ∈ D, x.1 ≠ n) → ((insO n l D).map (·.1)).Pairwise (· < ·)
  | [], h, hn => by simp [insO]
  | x :: D, h, hn => by
    unfold insO
    rw [List.map_cons, List.pairwise_cons] at h
    have hx := hn x (by simp)
    by_cases hlt : x.1 < n
    · rw [if_pos hlt, List.map_cons, List.pairwise_cons]
      refine ⟨fun a ha => ?_, insO_inc h.2 (fun y hy => hn y (by simp [hy]))⟩
      obtain ⟨y, hy, rfl⟩ := List.mem_map.1 ha
      rcases insO_mem.1 hy with rfl | hy
      · exact hlt
      · exact h.1 _ (List.mem_map.2 ⟨y, hy, rfl⟩)
    · rw [if_neg hlt, List.map_cons, List.map_cons, List.pairwise_cons, List.pairwise_cons]
      refine ⟨fun a ha => ?_, h.1, h.2⟩
      rcases List.mem_cons.1 ha with rfl | ha
      · show n < x.1; omega
      · have := h.1 a ha
        show n < a; omega
theorem getD_cons (x : Int × Int) (D : List (Int × Int)) (m : Int) : getD (x :: D) m = if x.1 = m then some x.2 else getD D m := by
  unfold getD
  by_cases h : x.1 = m <;> simp [List.find?_cons, h]
theorem insO_get {n l : Int} : ∀ {D : List (Int × Int)}, (∀ x ∈ D, x.1 ≠ n) → ∀ m, getD (insO n l D) m = if n = m then some l else getD D m
  | [], _, m => by rw [insO, getD_cons]
  | x :: D, hn, m => by
    have hx := hn x (by simp)
    have ih := insO_get (l := l) (D := D) (fun y hy => hn y (by simp [hy])) m
    unfold insO
    by_cases hlt : x.1 < n
    · rw [if_pos hlt]
      rw [getD_cons, getD_cons, ih]
      by_cases hm : x.1 = m
      · have : ¬ n = m := fun e => hx (by rw [hm, e])
        simp [hm, this]
      · simp only [hm, if_false]
    · rw [if_neg hlt, getD_cons]
theorem insO_cut {n l : Int} : ∀ {D : List (Int × Int)} {i : Nat}, i ≤ D.length → (∀ (j : Nat) (x : Int × Int), j < i → D[j]? = some x → x.1 < n) → (∀ x, D[i]? = some x → ¬ x.1 < n) → insO n l D = D.take i ++ ((n, l) :: D.drop i)
  | [], i, hi, _, _ => by simp [insO]
  | x :: D, 0, hi, _, h2 => by
    unfold insO
    rw [if_neg (h2 x rfl)]; simp
  | x :: D, i + 1, hi, h1, h2 => by
    unfold insO
    rw [if_pos (h1 0 x (by omega) rfl), insO_cut (i := i) (by simpa using hi) (fun j y hj hy => h1 (j + 1) y (by omega) (by simpa using hy)) (fun y hy => h2 y (by simpa using hy))]
    simp
def rown (s : PS) (i : Nat) (n : Int) (b : Pg) : PS := ⟨{ s.p.lay i ⟨b, n, true⟩ with owed := bif (getD s.p.owed n).isNone then insO n b.lsn s.p.owed else s.p.owed }, s.l, s.d⟩
def rset (s : PS) (n : Int) (b : Pg) (pick : Int) : PS × Int :=
  bif decide (n < 0) || decide ((s.p.pages : Int) ≤ n) then (s, 4) else
    (bif decide ((pEnc b).2 = 0) then
      (bif decide (b.lsn < 1) then (s, 1) else
        (match s.p.hold n with
        | some i => (rown s i n b, 0)
        | none => bif decide ((s.take pick).2.2 = 0) then (rown (s.take pick).1 (s.take pick).2.1 n b, 0) else ((s.take pick).1, (s.take pick).2.2)))
     else (s, (pEnc b).2))
section
variable {w w' : World} {Q S Y P : Nat → Prop} {b0 pb lb db fb cap : Nat} {q : DkL} {v vT : Value} {F : List PV} {ys : List Value} {s : PS} {p : Pl}
theorem RSI.table (h : RSI w Q b0 pb lb db fb cap q v vT F ys s) {vT' : Value} {D' : List (Int × Int)} (ho : w.ownsRow b0 120 2 vT' D'.length (D'.flatMap pc2)) (hfr : ∀ y, vT'.ownBlock = some y → ¬ RSf Q pb lb db fb q v vT y)
    (hinc : (D'.map (·.1)).Pairwise (· < ·)) (hrng : ∀ x ∈ D', 0 ≤ x.1 ∧ x.1 < (s.p.pages : Int)) {k : KV}
    (hk : ∀ w', RSI w' Q b0 pb lb db fb cap q v vT' F ys ⟨{ s.p with owed := D' }, s.l, s.d⟩ → Fm (· = pb) w w' → k undef w') : St 1 w (.pointer (some ⟨pb, 5, none⟩)) vT' k := by
  have hp := h.hp
  refine St_blk hp.st (by show 5 < 6; decide) (own_one ho) ?_
  intro w3 hw3 hs3 hf3
  replace hw3 : w3.heap[pb]? = some (.cells (rpc db lb fb F.length cap vT' { s.p with owed := D' }) 170) := hw3
  have hRpb : RSf Q pb lb db fb q v vT pb := .inr (.inr (.inl (.inl rfl)))
  refine hk w3 ⟨h.hd.keep hf3 (fun y hy e => (h.a1 hy).2 (.inl e)), h.dw, h.hl.keep hf3 (fun y hy e => h.a2 hy (.inl e)), ⟨hw3, hf3.heap hp.fr hp.pf.symm, own_keep ho hf3 (fun y _ _ hy e => hfr y hy (by rw [e]; exact hRpb)), hp.fs, fun x hx => (hp.it x hx).keep hf3 (fun y hy e => (hp.qs y hy).2 (.inl e)), fun y hy => ?_, hp.wf.of_fr rfl rfl rfl, hinc, hrng, hp.enc⟩, h.qd, Nat.le_trans h.hb hf3.size⟩ hf3
  obtain ⟨k1, k2⟩ := hp.qs y hy
  refine ⟨by omega, ?_⟩
  rintro (e | e | e)
  · exact k2 (.inl e)
  · exact k2 (.inr (.inl e))
  · exact hfr y e (.inr (.inr (.inr hy)))
end

end Go.Proofs.YthbngnlmgplijaaGreatDoor

namespace Go.Proofs.YthbngnlmgplijaaGreatDoor
open Go.Al Go.Proofs
set_option linter.unusedVariables false
set_option linter.unusedSimpArgs false
set_option linter.unusedSectionVars false
set_option maxRecDepth 100000

theorem pc2_take : ∀ (D : List (Int × Int)) (k : Nat), (D.flatMap pc2).take (k * 2) = (D.take k).flatMap pc2
  | [], k => by simp
  | x :: D, 0 => by simp
  | x :: D, k + 1 => by
    rw [List.flatMap_cons, List.take_succ_cons, List.flatMap_cons, show (k + 1) * 2 = (pc2 x).length + k * 2 by show _ = 2 + k * 2; omega, List.take_length_add_append, pc2_take D k]
theorem pc2_drop : ∀ (D : List (Int × Int)) (k : Nat), (D.flatMap pc2).drop (k * 2) = (D.drop k).flatMap pc2
  | [], k => by simp
  | x :: D, 0 => by simp
  | x :: D, k + 1 => by
    rw [List.flatMap_cons, List.drop_succ_cons, show (k + 1) * 2 = (pc2 x).length + k * 2 by show _ = 2 + k * 2; omega, List.drop_length_add_append, pc2_drop D k]
theorem pc2_one {D : List (Int × Int)} : ∀ u ∈ D.flatMap pc2, u.oneCell' = true := by
  intro u hu
  obtain ⟨x, _, hx⟩ := List.mem_flatMap.1 hu
  simp [pc2] at hx
  rcases hx with rfl | rfl <;> rfl
section
variable {w w' : World} {Q S Y P : Nat → Prop} {b0 pb lb db fb cap : Nat} {q : DkL} {v vT : Value} {F : List PV} {ys : List Value} {s : PS} {p : Pl}
set_option maxHeartbeats 16000000 in
theorem rpset_spec (h : RSI w Q b0 pb lb db fb cap q v vT F ys s) {cs : Array Value} {b : Pg} (hb : ∀ w', Fm (RSf Q pb lb db fb q v vT) w w' → PgAs w' cs b) (n pick : Int) :
    Cl Tryz.prog 52 [pv pb, iv n, .agg cs, iv pick] w fun r w' => r = iv (rset s n b pick).2 ∧ RStep w (RSf Q pb lb db fb q v vT) pb lb db fb (rset s n b pick).1 w' := by
  have hlt := h.lt
  obtain ⟨a0, j0, c0, hcs⟩ := (hb w (Fm.refl _ _)).sl
  subst hcs
  have hE : rset s n b pick = bif decide (n < 0) || decide ((s.p.pages : Int) ≤ n) then (s, 4) else
    (bif decide ((pEnc b).2 = 0) then
      (bif decide (b.lsn < 1) then (s, 1) else
        (match s.p.hold n with
        | some i => (rown s i n b, 0)
        | none => bif decide ((s.take pick).2.2 = 0) then (rown (s.take pick).1 (s.take pick).2.1 n b, 0) else ((s.take pick).1, (s.take pick).2.2)))
     else (s, (pEnc b).2)) := rfl
  have up : ∀ {a b : World}, Fm (fun _ => False) a b → Fm (RSf Q pb lb db fb q v vT) a b := fun hf => hf.mono (fun _ _ e => e.elim)
  refine c52 ?_; unfold T52
  refine New_any ?_
  intro x1 w1 hx1 hs1 hw1 hf1
  replace hw1 : w1.heap[x1]? = some (.cells (pcs b (.slice a0 j0 c0)) 61) := hw1
  have h1 := h.keep0 hf1
  have st1 : RStep w (RSf Q pb lb db fb q v vT) pb lb db fb s w1 := h.stay hf1
  cases g1 : decide (n < 0) with
  | true =>
    rw [g1, Bool.true_or, cond_true] at hE
    rw [hE]
    simp only [RS0, RS1, RS2, RS3, RS4, RS5, g1]
    exact ⟨(by trivial), st1⟩
  | false =>
  cases g2 : decide ((s.p.pages : Int) ≤ n) with
  | true =>
    rw [g1, g2, Bool.false_or, cond_true] at hE
    rw [hE]
    simp only [RS0, RS1, RS2, RS3, RS4, RS5, g1, h1.hp.c3, g2]
    exact ⟨(by trivial), st1⟩
  | false =>
  rw [g1, g2, Bool.false_or, cond_false] at hE
  simp only [RS0, RS1, RS2, RS3, RS4, RS5, g1, h1.hp.c3, g2, cellsV_blk hw1 (show (pcs b (.slice a0 j0 c0)).size = 6 from rfl)]
  rw [decide_eq_false_iff_not] at g1 g2
  have hpg := h.hp.wf.pg
  refine (rencode_spec (hb w1 (up hf1))).mono ?_
  rintro _ w2 ⟨rfl, hf2⟩
  rw [encR_eq]
  have h2 := h1.keep0 hf2
  have hF2 := Fmf hf1 hf2
  have hw2 := hf2.heap hw1 (fun e => e)
  have st2 : RStep w (RSf Q pb lb db fb q v vT) pb lb db fb s w2 := h.stay hF2
  simp only [RS0, RS1, RS2, RS3, RS4, RS5, bne_dec]
  cases g3 : decide ((pEnc b).2 = 0) with
  | false =>
    rw [g3, cond_false] at hE
    rw [hE]
    simp only [RS0, RS1, RS2, RS3, RS4, RS5]
    exact ⟨(by trivial), st2⟩
  | true =>
  rw [g3, cond_true] at hE
  rw [decide_eq_true_eq] at g3
  have c0' : w2.cell? ⟨x1, 0, none⟩ = some (iv b.lsn) := by rw [cell_at hw2]; rfl
  simp only [RS0, RS1, RS2, RS3, RS4, RS5, c0']
  cases g4 : decide (b.lsn < 1) with
  | true =>
    rw [g4, cond_true] at hE
    rw [hE]
    simp only [RS0, RS1, RS2, RS3, RS4, RS5]
    exact ⟨(by trivial), st2⟩
  | false =>
  rw [g4, cond_false] at hE
  simp only [RS0, RS1, RS2, RS3, RS4, RS5]
  refine (rpat_spec h2.hp n).mono ?_
  rintro _ w2 ⟨rfl, rfl⟩
  have z1 := hf1.size
  have z2 := hF2.size
  have hx1l := lt_of_heap hw1
  have z12 := hf2.size
  refine Jn_at (fun vs w3 => ∃ (i : Nat) (Q1 : Nat → Prop) (b1 cap1 : Nat) (q1 : DkL) (v1 vT1 : Value) (F1 : List PV) (ys1 : List Value) (s1 : PS), vs = [iv (i : Int)] ∧ RSI w3 Q1 b1 pb lb db fb cap1 q1 v1 vT1 F1 ys1 s1 ∧ (∀ y, RSf Q1 pb lb db fb q1 v1 vT1 y → RSf Q pb lb db fb q v vT y ∨ w2.heap.size ≤ y) ∧ Fm (RSf Q pb lb db fb q v vT) w w3 ∧ Fm (RSf Q pb lb db fb q v vT) w2 w3 ∧ i < F1.length ∧ s1.p.pages = s.p.pages ∧ rset s n b pick = (rown s1 i n b, 0)) ?_ ?_
  · rintro _ w4 ⟨i, Q1, b1, cap1, q1, v1, vT1, F1, ys1, s1, rfl, h4, hg4, hF4, hF24, hil, hpp, he⟩ _
    refine ⟨_, rfl, ?_⟩
    rw [he]
    have hnf : ∀ {y : Nat}, w.heap.size ≤ y → ¬ RSf Q pb lb db fb q v vT y := fun hy e => by have := hlt _ e; omega
    have hx14 : ¬ RSf Q1 pb lb db fb q1 v1 vT1 x1 := fun e => by
      rcases hg4 _ e with e | e
      · exact hnf (by omega) e
      · omega
    have hw4 := hF24.heap hw2 (hnf (by omega))
    have hfd := Fm.drew (fun _ => False) w4
    refine ⟨fun w' => Fm (fun _ => False) w4 w', hfd, ?_⟩
    simp only [RS0, RS1, RS2, RS3, RS4, RS5]
    refine ⟨.slice (some ⟨fb, 0, none⟩) F1.length cap1, fun w' h' => ?_, ?_⟩
    · simp only [RS0, RS1, RS2, RS3, RS4, RS5, (h4.hp.keep0 h').c4] <;> trivial
    simp only [RS0, RS1, RS2, RS3, RS4, RS5, cellsV_blk (hfd.heap hw4 (fun e => e)) (show (pcs b (.slice a0 j0 c0)).size = 6 from rfl), true_and]
    have hheld : HeldP w4.drew (fun _ => True) (.slice a0 j0 c0) b := fun w' hf => hb w' ((hF4.trans (up hfd) (fun _ _ e => e) (fun _ _ e => e)).trans hf (fun _ _ e => e) (fun _ _ e => absurd trivial e))
    refine (copied_spec hheld).mono ?_
    rintro _ w5 ⟨cs5, rfl, ho5, hf5⟩
    obtain ⟨a5, j5, c5, hcs5⟩ := ho5.as.sl
    subst hcs5
    have hF45 := Fmf hfd hf5
    refine ⟨hF45, ?_⟩
    have h5 := h4.keep0 hF45
    obtain ⟨u5, hu5, hou5⟩ := ho5.ex
    have hu5' := pcs_inj hu5
    subst hu5'
    have hul5 := own_lt hou5
    have zd : w4.drew.heap.size = w4.heap.size := rfl
    have h4lt := h4.lt
    have z24 := hF24.size
    have hn4 : ∀ {y : Nat}, w4.heap.size ≤ y → ¬ RSf Q1 pb lb db fb q1 v1 vT1 y := fun hy e => by have := h4lt _ e; omega
    refine RunS_ok (bld172b _ _ _ _ _ _) ⟨rfl, ?_⟩
    simp only [RS0, RS1, RS2, RS3, RS4, RS5, RP.ix i hil fb]
    refine h5.lay (P := fun y => (Value.slice a5 j5 c5).ownBlock = some y) hil (x := (⟨b, n, true⟩, .slice a5 j5 c5)) (HeldP.of_own ho5 (fun y hy => hy)) (fun y hy => ?_) rfl (.inr ⟨by show 0 ≤ n; omega, by show n < (s1.p.pages : Int); omega⟩) (fun _ => g3) ?_
    · have hyl := hul5 y hy
      have hno := hn4 (y := y) (by omega)
      exact ⟨fun e => hno (.inl e), fun e => hno (.inr (.inl e)), fun e => hno (.inr (.inr (.inl e))), hyl.2⟩
    intro w6 h6 hf6
    have hfb : RSf Q1 pb lb db fb q1 v1 vT1 fb := .inr (.inr (.inl (.inr (.inl rfl))))
    have hF6 : Fm (RSf Q pb lb db fb q v vT) w w6 := Fm.step (hF4.trans (up hF45) (fun _ _ e => e) (fun _ _ e => e)) hf6 (by rintro y rfl; exact (hg4 _ hfb).imp id (fun e => by omega))
    have hw6 := hf6.heap (hF45.heap hw4 (fun e => e)) (fun e => hx14 (by rw [e]; exact hfb))
    have hg6 : ∀ y, RSf (fun y => Q1 y ∨ (Value.slice a5 j5 c5).ownBlock = some y) pb lb db fb q1 v1 vT1 y → RSf Q pb lb db fb q v vT y ∨ w.heap.size ≤ y := by
      have key : ∀ y, RSf Q1 pb lb db fb q1 v1 vT1 y → RSf Q pb lb db fb q v vT y ∨ w.heap.size ≤ y := fun y hy => (hg4 y hy).imp id (fun e => by omega)
      rintro y (e | e | e | e | e)
      · exact key y (.inl e)
      · exact key y (.inr (.inl e))
      · exact key y (.inr (.inr (.inl e)))
      · exact key y (.inr (.inr (.inr e)))
      · exact .inr (by have := (hul5 y e).1; omega)
    have hpages6 : (s1.lay i (⟨b, n, true⟩ : Pf)).p.pages = s.p.pages := hpp
    have howed6 : (s1.lay i (⟨b, n, true⟩ : Pf)).p.owed = s1.p.owed := rfl
    have hrn : rown s1 i n b = ⟨{ (s1.lay i (⟨b, n, true⟩ : Pf)).p with owed := bif (getD s1.p.owed n).isNone then insO n b.lsn s1.p.owed else s1.p.owed }, s1.l, s1.d⟩ := rfl
    refine Jn_at (fun vs w7 => vs = [] ∧ RStep w (RSf Q pb lb db fb q v vT) pb lb db fb (rown s1 i n b) w7) ?_ ?_
    · rintro _ w7 ⟨rfl, h7⟩ _
      exact ⟨rfl, h7⟩
    intro jj hjj
    refine (rpowes_spec h6.hp n).mono ?_
    rintro _ w6 ⟨rfl, rfl⟩
    rw [howed6]
    cases g5 : (getD s1.p.owed n).isNone with
    | false =>
      rw [g5, cond_false] at hrn
      simp only [RS0, RS1, RS2, RS3, RS4, RS5, Bool.not_false, Bool.not_true]
      refine hjj _ _ ⟨rfl, ?_⟩
      rw [hrn]
      exact RSI.step1 h6 hg6 hF6
    | true =>
      rw [g5, cond_true] at hrn
      have hnk := getD_mem.1 g5
      simp only [RS0, RS1, RS2, RS3, RS4, RS5, Bool.not_false, Bool.not_true]
      have hol : s1.p.owed.length ≤ 8192 := h6.hp.olen
      refine ⟨fun vs w' => ∃ k : Nat, vs = [iv (k : Int)] ∧ k ≤ s1.p.owed.length ∧ (∀ (j : Nat) (f : Int × Int), j < k → s1.p.owed[j]? = some f → f.1 < n) ∧ w' = w6, fun vs _ => (s1.p.owed.length - nth vs 0).toNat, ⟨0, rfl, by omega, (fun j f hj => by omega), rfl⟩, ?_⟩
      rintro _ w7 ivv ⟨k, hvs, hk, hlo, rfl⟩
      cases hvs
      have hcA : CellsAt w7 vT1 s1.p.owed.length 2 (s1.p.owed.flatMap pc2) := CellsAt.of_own h6.hp.tb
      have hlv := hcA.lenV
      obtain ⟨vh, k1, k2, _⟩ := hcA.hi (i := k) hk .i64
      obtain ⟨vl, l1, l2, _⟩ := hcA.lo (i := k) hk .i64
      rw [pc2_take] at k2
      rw [pc2_drop] at l2
      by_cases hl : k < s1.p.owed.length
      · have d1 : decide ((k : Int) < (s1.p.owed.length : Int)) = true := by rw [decide_eq_true_eq]; omega
        have e1 : IntKind.i64.wrap ((k : Int) + 1) = ((k + 1 : Nat) : Int) := by rw [wrap_id] <;> omega
        have hx : s1.p.owed[k]? = some s1.p.owed[k] := List.getElem?_eq_getElem hl
        generalize s1.p.owed[k] = x at hx
        obtain ⟨ad, q1', q2', _⟩ := tb_ld h6.hp hx
        cases hq : decide (x.1 < n) with
        | true =>
          rw [decide_eq_true_eq] at hq
          have hq' : decide (x.1 < n) = true := by simpa using hq
          simp only [RS0, RS1, RS2, RS3, RS4, RS5, h6.hp.c5, hlv, d1, q1', q2', hq', e1]
          refine ⟨⟨k + 1, rfl, by omega, fun j f hj hf => ?_, (by trivial)⟩, by simp only [nth_0]; omega⟩
          by_cases hji : j = k
          · subst hji
            rw [hx] at hf; cases hf; exact hq
          · exact hlo j f (by omega) hf
        | false =>
          have hins := insO_cut (l := b.lsn) hk hlo (fun y hy => by rw [hx] at hy; cases hy; simpa using hq)
          simp only [RS0, RS1, RS2, RS3, RS4, RS5, h6.hp.c5, hlv, d1, q1', q2', hq, k1]
          obtain ⟨u8, w8, hr8, ho8, hf8'⟩ := append_srcO Er49 (by omega) (World.ownsRow_nil w7 w7.heap.size 120 2) k2 pc2_one 25 (by unfold maxLen; omega) (by omega) (Nat.le_refl _)
          refine RunS_ok hr8 ?_
          rw [Nat.zero_add, List.nil_append] at ho8
          have hf8 : Fm (fun _ => False) w7 w8 := hf8'.mono (fun y _ e => by cases e)
          have c8 : w8.cell? ⟨x1, 0, none⟩ = some (iv b.lsn) := by rw [cell_at (hf8.heap hw6 (fun e => e))]; rfl
          simp only [RS0, RS1, RS2, RS3, RS4, RS5, c8]
          refine RunS_ok (bld96 _ _ _) ?_
          have z8 := hf8.size
          refine append_el Er49 (by omega) 25 (cs := pc2 (n, b.lsn)) rfl (bs49 _ _ _) (by intro u hu; simp [pc2] at hu; rcases hu with rfl | rfl <;> rfl) ho8 (by unfold maxLen; omega) (by omega) z8 ?_
          intro u9 w9 ho9 _ hf9
          have hF9 : Fm (fun _ => False) w7 w9 := Fm.own hf8 hf9 (fun y hy => hy)
          have h9 := h6.keep0 hF9
          have z9 := hF9.size
          simp only [RS0, RS1, RS2, RS3, RS4, RS5, h9.hp.c5, l1]
          obtain ⟨u10, w10, hr10, ho10, hf10⟩ := append_srcO Er49 (by omega) ho9 (l2.keep hF9 (fun _ _ e => e)) pc2_one 25 (by unfold maxLen; omega) (by omega) z9
          refine RunS_ok hr10 ?_
          have hul9 := own_lt ho9
          have hF10 : Fm (fun _ => False) w7 w10 := Fm.own hF9 hf10 (fun y hy => (hul9 y hy).1)
          have h10 := h6.keep0 hF10
          have hD : (s1.p.owed.take k).flatMap pc2 ++ pc2 (n, b.lsn) ++ (s1.p.owed.drop k).flatMap pc2 = (insO n b.lsn s1.p.owed).flatMap pc2 := by rw [hins]; simp
          have hDl : k + 1 + (s1.p.owed.length - k) = (insO n b.lsn s1.p.owed).length := by rw [hins, List.length_append, List.length_cons, List.length_take, List.length_drop]; omega
          rw [hD, hDl] at ho10
          have h6lt := h6.lt
          have hul10 := own_lt ho10
          refine h10.table (own_base ho10 (Nat.le_trans h6.hb (Nat.le_refl _))) (fun y hy e => by have := (hul10 y hy).1; have := h6lt y e; omega) (insO_inc h6.hp.inc hnk) (fun x hx => ?_) ?_
          · rcases insO_mem.1 hx with rfl | hx
            · exact ⟨by show 0 ≤ n; omega, by show n < (s1.p.pages : Int); omega⟩
            · exact h6.hp.rng x hx
          intro w11 h11 hf11
          refine hjj _ _ ⟨rfl, ?_⟩
          rw [hrn]
          have hpbf : RSf (fun y => Q1 y ∨ (Value.slice a5 j5 c5).ownBlock = some y) pb lb db fb q1 v1 vT1 pb := .inr (.inr (.inl (.inl rfl)))
          have z67 := hF6.size
          exact RSI.step1 h11 (fun y hy => (RSf.new (N := w.heap.size) (fun y hy => .inr (by have := (hul10 y hy).1; omega)) hy).elim (hg6 y) .inr) (Fm.step (hF6.trans (up hF10) (fun _ _ e => e) (fun _ _ e => e)) hf11 (by rintro y rfl; exact hg6 _ hpbf))
      · have d1 : decide ((k : Int) < (s1.p.owed.length : Int)) = false := by rw [decide_eq_false_iff_not]; omega
        have hins := insO_cut (l := b.lsn) hk hlo (fun y hy => by have := (List.getElem?_eq_some_iff.1 hy).1; omega)
        simp only [RS0, RS1, RS2, RS3, RS4, RS5, h6.hp.c5, hlv, d1, k1]
        obtain ⟨u8, w8, hr8, ho8, hf8'⟩ := append_srcO Er49 (by omega) (World.ownsRow_nil w7 w7.heap.size 120 2) k2 pc2_one 25 (by unfold maxLen; omega) (by omega) (Nat.le_refl _)
        refine RunS_ok hr8 ?_
        rw [Nat.zero_add, List.nil_append] at ho8
        have hf8 : Fm (fun _ => False) w7 w8 := hf8'.mono (fun y _ e => by cases e)
        have c8 : w8.cell? ⟨x1, 0, none⟩ = some (iv b.lsn) := by rw [cell_at (hf8.heap hw6 (fun e => e))]; rfl
        simp only [RS0, RS1, RS2, RS3, RS4, RS5, c8]
        refine RunS_ok (bld96 _ _ _) ?_
        have z8 := hf8.size
        refine append_el Er49 (by omega) 25 (cs := pc2 (n, b.lsn)) rfl (bs49 _ _ _) (by intro u hu; simp [pc2] at hu; rcases hu with rfl | rfl <;> rfl) ho8 (by unfold maxLen; omega) (by omega) z8 ?_
        intro u9 w9 ho9 _ hf9
        have hF9 : Fm (fun _ => False) w7 w9 := Fm.own hf8 hf9 (fun y hy => hy)
        have h9 := h6.keep0 hF9
        have z9 := hF9.size
        simp only [RS0, RS1, RS2, RS3, RS4, RS5, h9.hp.c5, l1]
        obtain ⟨u10, w10, hr10, ho10, hf10⟩ := append_srcO Er49 (by omega) ho9 (l2.keep hF9 (fun _ _ e => e)) pc2_one 25 (by unfold maxLen; omega) (by omega) z9
        refine RunS_ok hr10 ?_
        have hul9 := own_lt ho9
        have hF10 : Fm (fun _ => False) w7 w10 := Fm.own hF9 hf10 (fun y hy => (hul9 y hy).1)
        have h10 := h6.keep0 hF10
        have hD : (s1.p.owed.take k).flatMap pc2 ++ pc2 (n, b.lsn) ++ (s1.p.owed.drop k).flatMap pc2 = (insO n b.lsn s1.p.owed).flatMap pc2 := by rw [hins]; simp
        have hDl : k + 1 + (s1.p.owed.length - k) = (insO n b.lsn s1.p.owed).length := by rw [hins, List.length_append, List.length_cons, List.length_take, List.length_drop]; omega
        rw [hD, hDl] at ho10
        have h6lt := h6.lt
        have hul10 := own_lt ho10
        refine h10.table (own_base ho10 (Nat.le_trans h6.hb (Nat.le_refl _))) (fun y hy e => by have := (hul10 y hy).1; have := h6lt y e; omega) (insO_inc h6.hp.inc hnk) (fun x hx => ?_) ?_
        · rcases insO_mem.1 hx with rfl | hx
          · exact ⟨by show 0 ≤ n; omega, by show n < (s1.p.pages : Int); omega⟩
          · exact h6.hp.rng x hx
        intro w11 h11 hf11
        refine hjj _ _ ⟨rfl, ?_⟩
        rw [hrn]
        have hpbf : RSf (fun y => Q1 y ∨ (Value.slice a5 j5 c5).ownBlock = some y) pb lb db fb q1 v1 vT1 pb := .inr (.inr (.inl (.inl rfl)))
        have z67 := hF6.size
        exact RSI.step1 h11 (fun y hy => (RSf.new (N := w.heap.size) (fun y hy => .inr (by have := (hul10 y hy).1; omega)) hy).elim (hg6 y) .inr) (Fm.step (hF6.trans (up hF10) (fun _ _ e => e) (fun _ _ e => e)) hf11 (by rintro y rfl; exact hg6 _ hpbf))
  · intro jj hjj
    cases hh : s.p.hold n with
    | some k =>
      rw [hh] at hE
      simp only at hE
      obtain ⟨y, hy, hyn, hkl⟩ := h2.hp.held hh
      have d2 : decide ((k : Int) < 0) = false := by rw [decide_eq_false_iff_not]; omega
      have e3 : holdI (some k) = (k : Int) := rfl
      simp only [RS0, RS1, RS2, RS3, RS4, RS5, e3, d2]
      exact hjj _ _ ⟨k, Q, b0, cap, q, v, vT, F, ys, s, rfl, h2, fun y hy => .inl hy, up hF2, Fm.refl _ _, hkl, rfl, hE⟩
    | none =>
      rw [hh] at hE
      simp only at hE
      have d2 : decide (holdI none < 0) = true := rfl
      simp only [RS0, RS1, RS2, RS3, RS4, RS5, d2]
      refine (rptake_spec h2 pick).mono ?_
      rintro _ w7 ⟨rfl, hst, hlt7⟩
      simp only [RS0, RS1, RS2, RS3, RS4, RS5, bne_dec]
      cases hq3 : decide ((s.take pick).2.2 = 0) with
      | false =>
        rw [hq3, cond_false] at hE
        rw [hE]
        simp only [RS0, RS1, RS2, RS3, RS4, RS5]
        obtain ⟨⟨Y1, hRS, gg1⟩, f7⟩ := hst
        exact ⟨(by trivial), ⟨Y1, hRS, fun y hy => (gg1 y hy).imp id (fun e => by omega)⟩, (up hF2).trans f7 (fun _ _ e => e) (fun _ _ e => e)⟩
      | true =>
        rw [hq3, cond_true] at hE
        have hil := hlt7 (of_decide_eq_true hq3)
        obtain ⟨⟨Y1, ⟨Q1, b1, cap1, q1, v1, vT1, F1, ys1, h7, hY1, hY2⟩, gg1⟩, f7⟩ := hst
        have hlen7 := h7.hp.len
        simp only [RS0, RS1, RS2, RS3, RS4, RS5]
        exact hjj _ _ ⟨(s.take pick).2.1, Q1, b1, cap1, q1, v1, vT1, F1, ys1, (s.take pick).1, rfl, h7, fun y hy => gg1 y (hY1 y hy), (up hF2).trans f7 (fun _ _ e => e) (fun _ _ e => e), f7, by omega, (take_len s pick).1, hE⟩
end

end Go.Proofs.YthbngnlmgplijaaGreatDoor

namespace Go.Proofs.YthbngnlmgplijaaGreatDoor
open Go.Al Go.Proofs
set_option linter.unusedVariables false
set_option linter.unusedSimpArgs false
set_option linter.unusedSectionVars false
set_option maxRecDepth 100000

def pfz : Pf := ⟨pg0, 0, false⟩
theorem frz_get : ∀ k, k < 8 → (frC (pfz, nlv))[k]? = some ((frC (pfz, nlv)).toArray[k]!) := by
  intro k hk
  match k, hk with
  | 0, _ => rfl
  | 1, _ => rfl
  | 2, _ => rfl
  | 3, _ => rfl
  | 4, _ => rfl
  | 5, _ => rfl
  | 6, _ => rfl
  | 7, _ => rfl
theorem made_frames (n : Nat) : madeCells (frC (pfz, nlv)).toArray (n * 8) = ((List.replicate n (pfz, nlv)).flatMap frC).toArray := by
  apply Array.ext'
  apply List.ext_getElem?
  intro j
  have hsz : (frC (pfz, nlv)).toArray.size = 8 := rfl
  simp only [madeCells, Array.toList_map, Array.toList_range, List.getElem?_map, hsz]
  by_cases hj : j < n * 8
  · rw [List.getElem?_range hj]
    have h1 : (List.replicate n (pfz, nlv))[j / 8]? = some (pfz, nlv) := by rw [List.getElem?_replicate, if_pos (by omega)]
    have h2 := flat_get frC_len h1 (j := j % 8) (by omega)
    have h3 : j / 8 * 8 + j % 8 = j := by omega
    rw [h3] at h2
    rw [h2, frz_get _ (by omega)]
    rfl
  · have hl := flat_len frC_len (List.replicate n (pfz, nlv))
    rw [List.length_replicate] at hl
    rw [List.getElem?_eq_none (l := List.range (n * 8)) (by rw [List.length_range]; omega), List.getElem?_eq_none (by rw [hl]; omega)]
    rfl
theorem made143 (w : World) (n : Nat) (h : n ≤ 100000) : (Instr.makeSlice 145 (iv n) (iv n)).run Tryz.prog w = .ok (.slice (some ⟨w.heap.size, 0, none⟩) n n) (w.alloc (.cells ((List.replicate n (pfz, nlv)).flatMap frC).toArray 143)) := by
  obtain ⟨i, h1, h2, h3, h4⟩ := info_of (P := Tryz.prog) (e := 143) (z := .agg (frC (pfz, nlv)).toArray) (n := 8) (b := 88) (by kernel_rfl)
  have hr := run_make (P := Tryz.prog) w 145 143 i _ Tryz.underlying145 h1 h2 .i64 .i64 n n (by omega) (Int.le_refl _) (by rw [h4]; omega) (by omega)
  rw [hr]
  simp only [Int.toNat_natCast, h3]
  rw [← made_frames]
  rfl
theorem rep_set {α : Type} (a b : α) {i n : Nat} (h : i < n) : (List.replicate i a ++ List.replicate (n - i) b).set i a = List.replicate (i + 1) a ++ List.replicate (n - (i + 1)) b := by
  rw [List.set_append_right _ _ (by rw [List.length_replicate]; exact Nat.le_refl _), List.length_replicate, Nat.sub_self, show n - i = (n - (i + 1)) + 1 from by omega, List.replicate_succ, List.set_cons_zero, List.replicate_succ', List.append_assoc]
  rfl
theorem rep_get {α : Type} (a b : α) {i n : Nat} (h : i < n) : (List.replicate i a ++ List.replicate (n - i) b)[i]? = some b := by
  rw [List.getElem?_append_right (by rw [List.length_replicate]; exact Nat.le_refl _), List.length_replicate, Nat.sub_self, List.getElem?_replicate, if_pos (by omega)]
theorem bld148 (db lb fb ob n : Nat) (a b : Int) (w : World) : (Instr.build 148 #[(0, pv db), (1, pv lb), (2, iv a), (3, iv b), (4, .slice (some ⟨fb, 0, none⟩) n n), (5, .map (some ob))]).run Tryz.prog w = .ok (.agg #[pv db, pv lb, iv a, iv b, .slice (some ⟨fb, 0, none⟩) n n, .map (some ob)]) w := by kernel_rfl
def newBad (d : Dk) (frm pages frames : Int) : Bool := decide (frames < 1) || (decide (1024 < frames) || (decide (pages < 1) || (decide (8192 < pages) || (decide (frm < 0) || decide ((d.cur.length : Int) - 8 * pages < frm)))))
def newP (frm pages frames : Int) : Pl := ⟨frm.toNat, pages.toNat, List.replicate frames.toNat pf0, []⟩
set_option maxHeartbeats 2000000 in
theorem pnew_spec {w : World} {b g m : Nat} {d : Dk} (h : DAt w b g m d) (lb : Nat) (frm pages frames : Int) (hi : In frm) : Cl Tryz.prog 36 [pv b, pv lb, iv frm, iv pages, iv frames] w fun v w' => Fm (fun _ => False) w w' ∧
    ((newBad d frm pages frames = true ∧ v = .tuple #[.pointer none, iv 1]) ∨ (newBad d frm pages frames = false ∧ ∃ pb fb ob X F, v = .tuple #[pv pb, iv 0] ∧ PIn w' X (fun _ => False) pb lb b fb ob F (newP frm pages frames) ∧ (newP frm pages frames).Wf ∧ ∀ y, X y → w.heap.size ≤ y)) := by
  have hn := h.wf.n1
  unfold newBad
  refine c36 ?_; unfold T36
  cases h1 : decide (frames < 1) with
  | true =>
    simp only [RS0, RS1, RS2, RS3, RS4, RS5, h1, Bool.true_or]
    exact ⟨Fm.refl _ _, .inl ⟨(by trivial), (by trivial)⟩⟩
  | false =>
  cases h2 : decide (1024 < frames) with
  | true =>
    simp only [RS0, RS1, RS2, RS3, RS4, RS5, h1, h2, Bool.true_or, Bool.false_or]
    exact ⟨Fm.refl _ _, .inl ⟨(by trivial), (by trivial)⟩⟩
  | false =>
  cases h3 : decide (pages < 1) with
  | true =>
    simp only [RS0, RS1, RS2, RS3, RS4, RS5, h1, h2, h3, Bool.true_or, Bool.false_or]
    exact ⟨Fm.refl _ _, .inl ⟨(by trivial), (by trivial)⟩⟩
  | false =>
  cases h4 : decide (8192 < pages) with
  | true =>
    simp only [RS0, RS1, RS2, RS3, RS4, RS5, h1, h2, h3, h4, Bool.true_or, Bool.false_or]
    exact ⟨Fm.refl _ _, .inl ⟨(by trivial), (by trivial)⟩⟩
  | false =>
  cases h5 : decide (frm < 0) with
  | true =>
    simp only [RS0, RS1, RS2, RS3, RS4, RS5, h1, h2, h3, h4, h5, Bool.true_or, Bool.false_or]
    exact ⟨Fm.refl _ _, .inl ⟨(by trivial), (by trivial)⟩⟩
  | false =>
  simp only [RS0, RS1, RS2, RS3, RS4, RS5, h1, h2, h3, h4, h5, Bool.false_or]
  rw [decide_eq_false_iff_not] at h1 h2 h3 h4 h5
  refine (dsize_spec h).mono ?_
  rintro _ w ⟨rfl, rfl⟩
  have e1 : IntKind.i64.wrap (8 * pages) = 8 * pages := by rw [wrap_id]; omega
  have e2 : IntKind.i64.wrap ((d.cur.length : Int) - 8 * pages) = (d.cur.length : Int) - 8 * pages := by rw [wrap_id]; omega
  simp only [RS0, RS1, RS2, RS3, RS4, RS5, e1, e2]
  cases h6 : decide ((d.cur.length : Int) - 8 * pages < frm) with
  | true =>
    simp only [RS0, RS1, RS2, RS3, RS4, RS5, h6]
    exact ⟨Fm.refl _ _, .inl ⟨(by trivial), (by trivial)⟩⟩
  | false =>
  simp only [RS0, RS1, RS2, RS3, RS4, RS5, h6]
  rw [decide_eq_false_iff_not] at h6
  obtain ⟨n, rfl⟩ := Int.eq_ofNat_of_zero_le (show 0 ≤ frames by omega)
  obtain ⟨pg, rfl⟩ := Int.eq_ofNat_of_zero_le (show 0 ≤ pages by omega)
  obtain ⟨fr, rfl⟩ := Int.eq_ofNat_of_zero_le (show 0 ≤ frm by omega)
  have hwf : (newP (fr : Int) (pg : Int) (n : Int)).Wf := ⟨by show 1 ≤ (List.replicate (Int.toNat (n : Int)) pf0).length ∧ (List.replicate (Int.toNat (n : Int)) pf0).length ≤ 1024; rw [List.length_replicate]; omega, by show 1 ≤ Int.toNat (pg : Int) ∧ Int.toNat (fr : Int) + 8 * Int.toNat (pg : Int) ≤ 65536; omega, fun f hf => .inl (by rw [List.eq_of_mem_replicate hf]; rfl)⟩
  refine RunS_ok (made143 _ n (by omega)) ?_
  have hf1 := Fm.alloc (fun _ => False) w (.cells ((List.replicate n (pfz, nlv)).flatMap frC).toArray 143)
  have hn1 := alloc_new w (.cells ((List.replicate n (pfz, nlv)).flatMap frC).toArray 143)
  have hs1 := alloc_size w (.cells ((List.replicate n (pfz, nlv)).flatMap frC).toArray 143)
  generalize w.alloc (.cells ((List.replicate n (pfz, nlv)).flatMap frC).toArray 143) = w1 at hf1 hn1 hs1
  refine RunS_ok (makeMap_run _ _) ?_
  have hM := MapAt.empty w1 iv iv
  have hf2 := Fm.alloc (fun _ => False) w1 (.map #[] 0)
  have hs2 := alloc_size w1 (.map #[] 0)
  generalize w1.alloc (.map #[] 0) = w2 at hM hf2 hs2
  refine RunS_ok (bld148 b lb w.heap.size w1.heap.size n _ _ _) ?_
  refine New_any ?_
  intro pb w3 hpb hs3 hw3 hf3
  have hM3 := hM.keep hf3 (fun e => e)
  have hfr3 := hf3.heap (hf2.heap hn1 (fun e => e)) (fun e => e)
  have hF3 := Fmf hf1 (Fmf hf2 hf3)
  have c4 : w3.cell? ⟨pb, 4, none⟩ = some (.slice (some ⟨w.heap.size, 0, none⟩) n n) := by rw [cell_at hw3]; rfl
  simp only [RS0, RS1, RS2, RS3, RS4, RS5, c4]
  refine ⟨fun vs w' => ∃ i : Nat, vs = [iv (i : Int)] ∧ i ≤ n ∧ w'.heap[w.heap.size]? = some (.cells ((List.replicate i (pf0, nlv) ++ List.replicate (n - i) (pfz, nlv)).flatMap frC).toArray 143) ∧ Fm (fun y => y = w.heap.size) w3 w', fun vs _ => (n - nth vs 0).toNat, ⟨0, rfl, by omega, by rw [Nat.sub_zero]; exact hfr3, Fm.refl _ _⟩, ?_⟩
  rintro _ w4 ivv ⟨i, hvs, hi, hfr4, hf4⟩
  cases hvs
  have c4' : w4.cell? ⟨pb, 4, none⟩ = some (.slice (some ⟨w.heap.size, 0, none⟩) n n) := hf4.cell' c4 (show ¬ pb = _ by omega)
  by_cases hl : i < n
  · have d1 : decide ((i : Int) < (n : Int)) = true := by rw [decide_eq_true_eq]; omega
    have ei : IntKind.i64.wrap ((i : Int) + 1) = ((i + 1 : Nat) : Int) := by rw [wrap_id] <;> omega
    simp only [RS0, RS1, RS2, RS3, RS4, RS5, d1, c4', PIn.ix i hl w.heap.size]
    refine St_blk hfr4 (j := i * 8 + 6) (by rw [List.size_toArray, flat_len frC_len, List.length_append, List.length_replicate, List.length_replicate]; omega) rfl ?_
    intro w5 hw5 hs5 hf5
    have hset := flat_set1 frC_len (y := (pf0, nlv)) (u := iv (-1)) (rep_get (pf0, nlv) (pfz, nlv) hl) (j := 6) (by omega) rfl
    rw [List.setIfInBounds_toArray, ← hset, rep_set _ _ hl] at hw5
    simp only [RS0, RS1, RS2, RS3, RS4, RS5, ei]
    exact ⟨⟨i + 1, rfl, by omega, hw5, hf4.trans hf5 (fun _ _ e => e) (fun _ _ e => e)⟩, by simp only [nth_0]; omega⟩
  · have hie : i = n := by omega
    subst hie
    have d1 : decide ((i : Int) < (i : Int)) = false := by simp
    simp only [RS0, RS1, RS2, RS3, RS4, RS5, d1]
    rw [Nat.sub_self, List.replicate_zero, List.append_nil] at hfr4
    refine ⟨Fm.own hF3 hf4 (by rintro y rfl; exact Nat.le_refl _), .inr ⟨(by trivial), pb, w.heap.size, w1.heap.size, fun y => y = pb ∨ y = w.heap.size ∨ y = w1.heap.size, List.replicate i (pf0, nlv), (by trivial), ⟨?_, hfr4, hM3.keep hf4 (show ¬ w1.heap.size = _ by omega), ?_, ?_, ⟨.inl rfl, .inr (.inl rfl), .inr (.inr rfl), fun y e => e.elim⟩, ⟨fun e => e, fun e => e, fun e => e⟩, ?_⟩, hwf, ?_⟩⟩
    · rw [List.length_replicate]
      exact hf4.heap hw3 (show ¬ pb = _ by omega)
    · show (List.replicate i (pf0, nlv)).map (·.1) = List.replicate (Int.toNat (i : Int)) pf0
      rw [List.map_replicate, Int.toNat_natCast]
    · intro x hx
      rw [List.eq_of_mem_replicate hx]
      exact HeldP.zero _ _
    · have := hf4.size
      rintro y (rfl | rfl | rfl) <;> omega
    · rintro y (rfl | rfl | rfl) <;> omega
end Go.Proofs.YthbngnlmgplijaaGreatDoor

namespace Go.Proofs.YthbngnlmgplijaaGreatDoor
open Go.Al Go.Proofs
set_option linter.unusedVariables false
set_option linter.unusedSimpArgs false
set_option linter.unusedSectionVars false
set_option maxRecDepth 100000

theorem E168 : ElemT Tryz.prog 168 172 8 88 := elemT_of Tryz.underlying168 (by kernel_rfl)
theorem bs168 (u : World) : (Instr.buildSlice 168 1 #[(0, .agg (rfr (pf0, nlv)).toArray)]).run Tryz.prog u = .ok (.slice (some ⟨u.heap.size, 0, none⟩) 1 1) (u.alloc (.cells (rfr (pf0, nlv)).toArray 172)) := by kernel_rfl
theorem bld170 (db lb : Nat) (a b : Int) (w : World) : (Instr.build 170 #[(0, pv db), (1, pv lb), (2, iv a), (3, iv b)]).run Tryz.prog w = .ok (.agg #[pv db, pv lb, iv a, iv b, nlv, nlv]) w := by kernel_rfl
set_option maxHeartbeats 4000000 in
theorem rpnew_spec {w : World} {b : Nat} {q : DkL} {d : Dk} (h : DkAt w b q d) (hw : d.Wf) (lb : Nat) (frm pages frames : Int) (hi : In frm) : Cl Tryz.prog 49 [pv b, pv lb, iv frm, iv pages, iv frames] w fun v w' => Fm (fun _ => False) w w' ∧
    ((newBad d frm pages frames = true ∧ v = .tuple #[.pointer none, iv 1]) ∨ (newBad d frm pages frames = false ∧ ∃ pb fb cap F ys, v = .tuple #[pv pb, iv 0] ∧ RP w' (fun _ => False) 0 pb lb b fb cap nlv F ys (newP frm pages frames) ∧ w.heap.size ≤ pb ∧ w.heap.size ≤ fb)) := by
  have hn := hw.n1
  unfold newBad
  refine c49 ?_; unfold T49
  cases h1 : decide (frames < 1) with
  | true =>
    simp only [RS0, RS1, RS2, RS3, RS4, RS5, h1, Bool.true_or]
    exact ⟨Fm.refl _ _, .inl ⟨(by trivial), (by trivial)⟩⟩
  | false =>
  cases h2 : decide (1024 < frames) with
  | true =>
    simp only [RS0, RS1, RS2, RS3, RS4, RS5, h1, h2, Bool.true_or, Bool.false_or]
    exact ⟨Fm.refl _ _, .inl ⟨(by trivial), (by trivial)⟩⟩
  | false =>
  cases h3 : decide (pages < 1) with
  | true =>
    simp only [RS0, RS1, RS2, RS3, RS4, RS5, h1, h2, h3, Bool.true_or, Bool.false_or]
    exact ⟨Fm.refl _ _, .inl ⟨(by trivial), (by trivial)⟩⟩
  | false =>
  cases h4 : decide (8192 < pages) with
  | true =>
    simp only [RS0, RS1, RS2, RS3, RS4, RS5, h1, h2, h3, h4, Bool.true_or, Bool.false_or]
    exact ⟨Fm.refl _ _, .inl ⟨(by trivial), (by trivial)⟩⟩
  | false =>
  cases h5 : decide (frm < 0) with
  | true =>
    simp only [RS0, RS1, RS2, RS3, RS4, RS5, h1, h2, h3, h4, h5, Bool.true_or, Bool.false_or]
    exact ⟨Fm.refl _ _, .inl ⟨(by trivial), (by trivial)⟩⟩
  | false =>
  rw [decide_eq_false_iff_not] at h1 h2 h3 h4 h5
  have h1' : decide (frames < 1) = false := by simpa using h1
  have h2' : decide (1024 < frames) = false := by simpa using h2
  have h3' : decide (pages < 1) = false := by simpa using h3
  have h4' : decide (8192 < pages) = false := by simpa using h4
  have h5' : decide (frm < 0) = false := by simpa using h5
  simp only [RS0, RS1, RS2, RS3, RS4, RS5, h1', h2', h3', h4', h5', Bool.false_or]
  refine (rdsize_spec h hw).mono ?_
  rintro _ w ⟨rfl, rfl⟩
  cases h7 : decide ((d.cur.length : Int) < frm) with
  | true =>
    have h6 : decide ((d.cur.length : Int) - 8 * pages < frm) = true := by rw [decide_eq_true_eq] at h7 ⊢; omega
    simp only [RS0, RS1, RS2, RS3, RS4, RS5, h7, h6]
    exact ⟨Fm.refl _ _, .inl ⟨(by trivial), (by trivial)⟩⟩
  | false =>
  have h7' := h7
  rw [decide_eq_false_iff_not] at h7'
  have e1 : IntKind.i64.wrap (8 * pages) = 8 * pages := by rw [wrap_id]; omega
  have e2 : IntKind.i64.wrap (frm + 8 * pages) = frm + 8 * pages := by rw [wrap_id]; omega
  simp only [RS0, RS1, RS2, RS3, RS4, RS5, h7, e1, e2]
  refine (rdsize_spec h hw).mono ?_
  rintro _ w ⟨rfl, rfl⟩
  have h67 : decide ((d.cur.length : Int) < frm + 8 * pages) = decide ((d.cur.length : Int) - 8 * pages < frm) := by rw [decide_eq_decide]; omega
  cases h6 : decide ((d.cur.length : Int) - 8 * pages < frm) with
  | true =>
    rw [h6] at h67
    simp only [RS0, RS1, RS2, RS3, RS4, RS5, h67]
    exact ⟨Fm.refl _ _, .inl ⟨(by trivial), (by trivial)⟩⟩
  | false =>
  rw [h6] at h67
  simp only [RS0, RS1, RS2, RS3, RS4, RS5, h67]
  rw [decide_eq_false_iff_not] at h6
  obtain ⟨n, rfl⟩ := Int.eq_ofNat_of_zero_le (show 0 ≤ frames by omega)
  obtain ⟨pg, rfl⟩ := Int.eq_ofNat_of_zero_le (show 0 ≤ pages by omega)
  obtain ⟨fr, rfl⟩ := Int.eq_ofNat_of_zero_le (show 0 ≤ frm by omega)
  have hwf : (newP (fr : Int) (pg : Int) (n : Int)).Wf := ⟨by show 1 ≤ (List.replicate (Int.toNat (n : Int)) pf0).length ∧ (List.replicate (Int.toNat (n : Int)) pf0).length ≤ 1024; rw [List.length_replicate]; omega, by show 1 ≤ Int.toNat (pg : Int) ∧ Int.toNat (fr : Int) + 8 * Int.toNat (pg : Int) ≤ 65536; omega, fun f hf => .inl (by rw [List.eq_of_mem_replicate hf]; rfl)⟩
  refine RunS_ok (bld170 b lb _ _ _) ?_
  refine New_any ?_
  intro pb w1 hpb hs1 hw1 hf1
  refine ⟨fun vs w' => ∃ (i : Nat) (u : Value), vs = [iv (i : Int)] ∧ i ≤ n ∧ w'.heap[pb]? = some (.cells #[pv b, pv lb, iv (fr : Int), iv (pg : Int), u, nlv] 170) ∧ w'.ownsRow w1.heap.size 172 8 u i ((List.replicate i (pf0, nlv)).flatMap rfr) ∧ w1.heap.size ≤ w'.heap.size ∧ Fm (fun _ => False) w w', fun vs _ => (n - nth vs 0).toNat, ⟨0, nlv, rfl, by omega, hw1, by simpa using World.ownsRow_nil w1 _ _ _, Nat.le_refl _, hf1⟩, ?_⟩
  rintro _ w2 ivv ⟨i, u, hvs, hi, hst2, ho2, z2, hF2⟩
  cases hvs
  by_cases hl : i < n
  · have d1 : decide ((i : Int) < (n : Int)) = true := by rw [decide_eq_true_eq]; omega
    have ei : IntKind.i64.wrap ((i : Int) + 1) = ((i + 1 : Nat) : Int) := by rw [wrap_id] <;> omega
    have c4 : w2.cell? ⟨pb, 4, none⟩ = some u := by rw [cell_at hst2]; rfl
    simp only [RS0, RS1, RS2, RS3, RS4, RS5, d1, c4]
    refine RunS_ok (bld172z _) ?_
    refine append_el E168 (by omega) 168 (cs := rfr (pf0, nlv)) rfl (bs168 _) (by intro x hx; exact rfr_one (x := (pf0, nlv)) rfl x (by simpa using hx)) ho2 (by unfold maxLen; omega) (by omega) z2 ?_
    intro u3 w3 ho3 _ hf3
    have hst3 := hf3.heap hst2 (by omega)
    have z3 := hf3.size
    have hul := own_lt ho3
    refine St_blk hst3 (by show 4 < 6; decide) (own_one ho3) ?_
    intro w4 hw4 hs4 hf4
    replace hw4 : w4.heap[pb]? = some (.cells #[pv b, pv lb, iv (fr : Int), iv (pg : Int), u3, nlv] 170) := hw4
    simp only [RS0, RS1, RS2, RS3, RS4, RS5, ei]
    refine ⟨⟨i + 1, u3, rfl, by omega, hw4, ?_, by omega, Fm.own (Fm.own hF2 hf3 (fun y hy => by omega)) hf4 (by rintro y rfl; omega)⟩, by simp only [nth_0]; omega⟩
    rw [List.replicate_succ', List.flatMap_append]
    have := own_keep ho3 hf4 (fun y hy _ _ e => by omega)
    simpa using this
  · have hie : i = n := by omega
    subst hie
    have d1 : decide ((i : Int) < (i : Int)) = false := by simp
    simp only [RS0, RS1, RS2, RS3, RS4, RS5, d1]
    rcases ho2.2 with ⟨_, h0⟩ | ⟨g, cap, cur, rfl, hg, hcur, hnc, hcm, hsz, htk⟩
    · omega
    refine ⟨hF2, .inr ⟨(by trivial), pb, g, cap, List.replicate i (pf0, nlv), cur.toList.drop (i * 8), (by trivial), ⟨?_, ?_, World.ownsRow_nil _ _ _ _, ?_, ?_, fun y hy => hy.elim, hwf, List.Pairwise.nil, (fun x hx => by cases hx), ?_⟩, by omega, by omega⟩⟩
    · show w2.heap[pb]? = some (.cells #[pv b, pv lb, iv ((Int.toNat (fr : Int) : Nat) : Int), iv ((Int.toNat (pg : Int) : Nat) : Int), .slice (some ⟨g, 0, none⟩) (List.replicate i (pf0, nlv)).length cap, nlv] 170)
      rw [List.length_replicate, Int.toNat_natCast, Int.toNat_natCast]
      exact hst2
    · rw [← htk, List.take_append_drop, Array.toArray_toList]; exact hcur
    · show (List.replicate i (pf0, nlv)).map (·.1) = List.replicate (Int.toNat (i : Int)) pf0
      rw [List.map_replicate, Int.toNat_natCast]
    · intro x hx
      rw [List.eq_of_mem_replicate hx]
      exact HeldP.zero _ _
    · intro f hf hc
      rw [List.eq_of_mem_replicate hf] at hc
      cases hc
section
variable {w w' : World} {Q S : Nat → Prop} {b0 pb lb db fb cap : Nat} {vT : Value} {F : List PV} {ys : List Value} {p : Pl}
theorem rpdirty_spec (h : RP w Q b0 pb lb db fb cap vT F ys p) : Cl Tryz.prog 61 [pv pb] w fun r w' => w'.ownsRow w.heap.size 120 2 r p.owed.length (p.owed.flatMap pc2) ∧ Fm (fun _ => False) w w' := by
  have hol := h.olen
  refine c61 ?_; unfold T61
  simp only [RS0, RS1, RS2, RS3, RS4, RS5, h.c5]
  obtain ⟨r, w2, hr2, ho2, hf2⟩ := append_srcO Er49 (by omega) (World.ownsRow_nil w w.heap.size 120 2) (CellsAt.of_own h.tb) pc2_one 25 (by unfold maxLen; omega) (by omega) (Nat.le_refl _)
  refine RunS_ok hr2 ?_
  rw [Nat.zero_add, List.nil_append] at ho2
  exact ⟨ho2, hf2.mono (fun y _ e => by cases e)⟩
theorem rpheld_spec (h : RP w Q b0 pb lb db fb cap vT F ys p) : Cl Tryz.prog 63 [pv pb] w fun r w' => w'.ownsRow w.heap.size 3 1 r p.fr.length (p.fr.map fun f => iv f.num) ∧ Fm (fun _ => False) w w' := by
  have hlen := h.len
  have hw := h.flen
  refine c63 ?_; unfold T63
  refine ⟨fun vs w2 => ∃ (i : Nat) (u : Value), vs = [u, iv (i : Int)] ∧ i ≤ F.length ∧ w2.ownsRow w.heap.size 3 1 u i ((p.fr.take i).map fun f => iv f.num) ∧ Fm (fun _ => False) w w2, fun vs _ => (F.length - nth vs 1).toNat, ⟨0, _, rfl, by omega, by simpa using World.ownsRow_nil w _ _ _, Fm.refl _ _⟩, ?_⟩
  rintro _ w2 u ivv ⟨i, _, hvs, hi, ho2, hF2⟩
  cases hvs
  have h2 := h.keep0 hF2
  by_cases hl : i < F.length
  · have d1 : decide ((i : Int) < (F.length : Int)) = true := by rw [decide_eq_true_eq]; omega
    have e1 : IntKind.i64.wrap ((i : Int) + 1) = ((i + 1 : Nat) : Int) := by rw [wrap_id] <;> omega
    have hx : F[i]? = some F[i] := List.getElem?_eq_getElem hl
    generalize F[i] = x at hx
    obtain ⟨g1, _⟩ := h.frg hx
    simp only [RS0, RS1, RS2, RS3, RS4, RS5, h2.c4, d1, RP.ix i hl fb, h2.f0 hx]
    refine append_el dE23 (by omega) 23 (cs := [iv x.1.num]) rfl (dbs23 _ _) (by intro u hu; simp at hu; subst hu; rfl) ho2 (by unfold maxLen; omega) (by omega) hF2.size ?_
    intro u3 w3 ho3 _ hf3
    simp only [RS0, RS1, RS2, RS3, RS4, RS5, e1]
    refine ⟨⟨i + 1, u3, rfl, by omega, ?_, Fm.own hF2 hf3 (fun y hy => hy)⟩, by simp only [nth_1]; omega⟩
    rw [List.take_add_one, g1, List.map_append]
    simpa using ho3
  · have hie : i = p.fr.length := by omega
    subst hie
    have d1 : decide (((p.fr.length : Nat) : Int) < (F.length : Int)) = false := by rw [decide_eq_false_iff_not]; omega
    simp only [RS0, RS1, RS2, RS3, RS4, RS5, h2.c4, d1]
    rw [List.take_length] at ho2
    exact ⟨ho2, hF2⟩
end

end Go.Proofs.YthbngnlmgplijaaGreatDoor

namespace Go.Proofs.YthbngnlmgplijaaGreatDoor
open Go.Al Go.Proofs
set_option linter.unusedVariables false
set_option linter.unusedSimpArgs false
set_option linter.unusedSectionVars false
set_option maxRecDepth 100000

structure Sys (w0 w : World) (Y : Nat → Prop) (pb lb db : Nat) (s : PS) : Prop where
  ex : ∃ Xl Xp Q g m fb ob F, SI w Xl Xp Q pb lb db g m fb ob F s ∧ ∀ y, SY Xl Xp db g m y → Y y
  ge : ∀ y, Y y → w0.heap.size ≤ y ∧ y < w.heap.size
  fm : Fm (fun _ => False) w0 w
def Gr (w : World) (Y Y' : Nat → Prop) : Prop := ∀ y, Y' y → Y y ∨ w.heap.size ≤ y
section
variable {w0 w w' : World} {Y S : Nat → Prop} {pb lb db : Nat} {s : PS}
theorem Sys.keep (h : Sys w0 w Y pb lb db s) (hf : Fm S w w') (hS : ∀ y, Y y → ¬ S y) (h0 : ∀ y, S y → w0.heap.size ≤ y) : Sys w0 w' Y pb lb db s := by
  obtain ⟨Xl, Xp, Q, g, m, fb, ob, F, h1, h2⟩ := h.ex
  exact ⟨⟨Xl, Xp, Q, g, m, fb, ob, F, h1.keep hf (fun y hy => hS y (h2 y hy)), h2⟩, fun y hy => ⟨(h.ge y hy).1, Nat.lt_of_lt_of_le (h.ge y hy).2 hf.size⟩, Fm.own h.fm hf h0⟩
theorem Sys.keep0 (h : Sys w0 w Y pb lb db s) (hf : Fm (fun _ => False) w w') : Sys w0 w' Y pb lb db s := h.keep hf (fun _ _ e => e) (fun _ e => e.elim)
theorem Sys.step (h : Sys w0 w Y pb lb db s) {s' : PS} {Xl Xp Q : Nat → Prop} {g m fb ob : Nat} {F F' : List PV} {Xl' Xp' Q' : Nat → Prop} (h1 : SI w Xl Xp Q pb lb db g m fb ob F s) (h2 : ∀ y, SY Xl Xp db g m y → Y y) (h3 : SI w' Xl' Xp' Q' pb lb db g m fb ob F' s')
    (hl : ∀ y, Xl' y → Xl y ∨ w.heap.size ≤ y) (hp : ∀ y, Xp' y → Xp y ∨ w.heap.size ≤ y) (hf : Fm (SY Xl Xp db g m) w w') : (∃ Y', Sys w0 w' Y' pb lb db s' ∧ Gr w Y Y') ∧ Fm Y w w' := by
  have hF : Fm Y w w' := hf.mono (fun y _ e => h2 y e)
  have hz := hf.size
  have hz0 := h.fm.size
  have hG : ∀ y, SY Xl' Xp' db g m y → Y y ∨ w.heap.size ≤ y := by
    rintro y (hy | hy | hy)
    · rcases hl y hy with e | e
      · exact .inl (h2 y (.inl e))
      · exact .inr e
    · rcases hp y hy with e | e
      · exact .inl (h2 y (.inr (.inl e)))
      · exact .inr e
    · exact .inl (h2 y (.inr (.inr hy)))
  refine ⟨⟨SY Xl' Xp' db g m, ⟨⟨Xl', Xp', Q', g, m, fb, ob, F', h3, fun _ e => e⟩, fun y hy => ⟨?_, h3.lt y hy⟩, Fm.own h.fm hF (fun y hy => (h.ge y hy).1)⟩, hG⟩, hF⟩
  rcases hG y hy with e | e
  · exact (h.ge y e).1
  · omega
theorem Sys.fetch (h : Sys w0 w Y pb lb db s) (n pick : Int) : Cl Tryz.prog 33 [pv pb, iv n, iv pick] w fun v w' => ∃ u, v = .tuple #[.agg (pcs (s.fetch n pick).2.1 u), iv (s.fetch n pick).2.2] ∧ PgOw w' w.heap.size (pcs (s.fetch n pick).2.1 u) (s.fetch n pick).2.1 ∧
    (∃ Y', Sys w0 w' Y' pb lb db (s.fetch n pick).1 ∧ Gr w Y Y' ∧ ∀ k, u.ownBlock = some k → ¬ Y' k) ∧ Fm Y w w' := by
  obtain ⟨Xl, Xp, Q, g, m, fb, ob, F, h1, h2⟩ := h.ex
  refine (pfetch_spec h1 n pick).mono ?_
  rintro v w' ⟨u, rfl, ho, ⟨Xp', Q', F', h3, hp, hu⟩, hf⟩
  obtain ⟨⟨Y', hY, hG⟩, hF⟩ := h.step h1 h2 h3 (fun y e => .inl e) hp hf
  have hul : ∀ k, u.ownBlock = some k → w.heap.size ≤ k := by
    obtain ⟨u', e, hou⟩ := ho.ex
    rw [← pcs_inj e] at hou
    exact fun k hk => (own_lt hou k hk).1
  refine ⟨u, rfl, ho, ⟨SY Xl Xp' db g m, ⟨⟨Xl, Xp', Q', g, m, fb, ob, F', h3, fun _ e => e⟩, fun y hy => ⟨?_, h3.lt y hy⟩, Fm.own h.fm hF (fun y hy => (h.ge y hy).1)⟩, fun y hy => ?_, fun k hk e => ?_⟩, hF⟩
  · have hz0 := h.fm.size
    rcases hy with hy | hy | hy
    · exact (h.ge y (h2 y (.inl hy))).1
    · rcases hp y hy with e | e
      · exact (h.ge y (h2 y (.inr (.inl e)))).1
      · omega
    · exact (h.ge y (h2 y (.inr (.inr hy)))).1
  · rcases hy with hy | hy | hy
    · exact .inl (h2 y (.inl hy))
    · rcases hp y hy with e | e
      · exact .inl (h2 y (.inr (.inl e)))
      · exact .inr e
    · exact .inl (h2 y (.inr (.inr hy)))
  · have := hul k hk
    rcases e with e | e | e
    · have := h1.lt k (.inl e); omega
    · exact hu k hk e
    · have := h1.lt k (.inr (.inr e)); omega
theorem Sys.set (h : Sys w0 w Y pb lb db s) {cs : Array Value} {b : Pg} (hb : ∀ w', Fm Y w w' → PgAs w' cs b) (n pick : Int) : Cl Tryz.prog 32 [pv pb, iv n, .agg cs, iv pick] w fun v w' => v = iv (s.set n b pick).2 ∧ (∃ Y', Sys w0 w' Y' pb lb db (s.set n b pick).1 ∧ Gr w Y Y') ∧ Fm Y w w' := by
  obtain ⟨Xl, Xp, Q, g, m, fb, ob, F, h1, h2⟩ := h.ex
  refine (pset_spec h1 (fun w' hf => hb w' (hf.mono (fun y _ e => h2 y e))) n pick).mono ?_
  rintro v w' ⟨rfl, ⟨Xp', Q', F', h3, hp⟩, hf⟩
  exact ⟨rfl, h.step h1 h2 h3 (fun y e => .inl e) hp hf⟩
theorem Sys.write (h : Sys w0 w Y pb lb db s) (n : Int) : Cl Tryz.prog 37 [pv pb, iv n] w fun v w' => v = iv (s.write n).2 ∧ (∃ Y', Sys w0 w' Y' pb lb db (s.write n).1 ∧ Gr w Y Y') ∧ Fm Y w w' := by
  obtain ⟨Xl, Xp, Q, g, m, fb, ob, F, h1, h2⟩ := h.ex
  refine (pwrite_spec h1 n).mono ?_
  rintro v w' ⟨rfl, ⟨F', h3⟩, hf⟩
  exact ⟨rfl, h.step h1 h2 h3 (fun y e => .inl e) (fun y e => .inl e) hf⟩
theorem Sys.synced (h : Sys w0 w Y pb lb db s) : Cl Tryz.prog 39 [pv pb] w fun v w' => (∃ Y', Sys w0 w' Y' pb lb db ⟨s.p.synced, s.l, s.d⟩ ∧ Gr w Y Y') ∧ Fm Y w w' := by
  obtain ⟨Xl, Xp, Q, g, m, fb, ob, F, h1, h2⟩ := h.ex
  refine h1.synced.mono ?_
  rintro v w' ⟨h3, hf⟩
  exact h.step h1 h2 h3 (fun y e => .inl e) (fun y e => .inl e) hf
theorem Sys.dsync (h : Sys w0 w Y pb lb db s) : Cl Tryz.prog 38 [pv db] w fun v w' => v = iv s.d.sync.2 ∧ (∃ Y', Sys w0 w' Y' pb lb db ⟨s.p, s.l, s.d.sync.1⟩ ∧ Gr w Y Y') ∧ Fm Y w w' := by
  obtain ⟨Xl, Xp, Q, g, m, fb, ob, F, h1, h2⟩ := h.ex
  refine (dsync_spec h1.hD).mono ?_
  rintro v w' ⟨rfl, hd, hf⟩
  obtain ⟨h3, hf3⟩ := h1.disk hd hf
  exact ⟨rfl, h.step h1 h2 h3 (fun y e => .inl e) (fun y e => .inl e) hf3⟩
theorem Sys.append (h : Sys w0 w Y pb lb db s) {cs : Array Value} {r : Rc} (hr : ∀ w', Fm Y w w' → RcAs w' cs r) : Cl Tryz.prog 21 [pv lb, .agg cs] w fun v w' => v = .tuple #[iv (s.l.append r).2.1, iv (s.l.append r).2.2] ∧ (∃ Y', Sys w0 w' Y' pb lb db ⟨s.p, (s.l.append r).1, s.d⟩ ∧ Gr w Y Y') ∧ Fm Y w w' := by
  obtain ⟨Xl, Xp, Q, g, m, fb, ob, F, h1, h2⟩ := h.ex
  refine (wappend_spec h1.hL (fun w' hf => hr w' (hf.mono (fun y _ e => h2 y (.inl e))))).mono ?_
  rintro v w' ⟨rfl, Xl', hL, hl, hf⟩
  have hdl := h1.hD.lt
  have h3 : SI w' Xl' Xp Q pb lb db g m fb ob F ⟨s.p, (s.l.append r).1, s.d⟩ := by
    refine ⟨hL, h1.hD.keep hf h1.ld.1 h1.ld.2.1 h1.ld.2.2, h1.hP.keep hf (fun y hy e => h1.lp y e hy), h1.wf, fun y hy e => ?_, ⟨fun e => ?_, fun e => ?_, fun e => ?_⟩, h1.pd⟩
    · rcases hl y hy with q | q
      · exact h1.lp y q e
      · have := h1.hP.lt y e; omega
    · rcases hl _ e with q | q
      · exact h1.ld.1 q
      · omega
    · rcases hl _ e with q | q
      · exact h1.ld.2.1 q
      · omega
    · rcases hl _ e with q | q
      · exact h1.ld.2.2 q
      · omega
  exact ⟨rfl, h.step h1 h2 h3 hl (fun y e => .inl e) (hf.mono (fun y _ e => .inl e))⟩
theorem Sys.dread (h : Sys w0 w Y pb lb db s) (a k : Int) : Cl Tryz.prog 40 [pv db, iv a, iv k] w fun v w' => v = .tuple #[stv (s.d.read a k).1, iv (s.d.read a k).2] ∧ w' = w := by
  obtain ⟨Xl, Xp, Q, g, m, fb, ob, F, h1, h2⟩ := h.ex
  exact dread_spec h1.hD a k
theorem Sys.owes (h : Sys w0 w Y pb lb db s) (n : Int) : Cl Tryz.prog 43 [pv pb, iv n] w fun v w' => v = .bool (!(getD s.p.owed n).isNone) ∧ w' = w := by
  obtain ⟨Xl, Xp, Q, g, m, fb, ob, F, h1, h2⟩ := h.ex
  exact powes_spec h1.hP n
theorem Sys.flushed (h : Sys w0 w Y pb lb db s) : Cl Tryz.prog 27 [pv lb] w fun v w' => v = iv (s.l.last : Int) ∧ Fm (fun _ => False) w w' := by
  obtain ⟨Xl, Xp, Q, g, m, fb, ob, F, h1, h2⟩ := h.ex
  exact wflushed_spec h1.hL
theorem Sys.tail (h : Sys w0 w Y pb lb db s) : Cl Tryz.prog 20 [pv lb] w fun v w' => v = iv (s.l.tail : Int) ∧ Fm (fun _ => False) w w' := by
  obtain ⟨Xl, Xp, Q, g, m, fb, ob, F, h1, h2⟩ := h.ex
  exact wtail_spec h1.hL
theorem Sys.lwf (h : Sys w0 w Y pb lb db s) : s.l.Wf := by
  obtain ⟨Xl, Xp, Q, g, m, fb, ob, F, h1, h2⟩ := h.ex
  exact h1.hL.wf
theorem Sys.made {w1 w2 w3 : World} {b g m : Nat} {d : Dk} {L : Lg} {p : Pl} {X Xp : Nat → Prop} {fb ob : Nat} {F : List PV} (hd : DAt w2 b g m d) (hb : (w0.heap.size ≤ b ∧ w0.heap.size ≤ g ∧ w0.heap.size ≤ m) ∧ b < w1.heap.size ∧ g < w1.heap.size ∧ m < w1.heap.size)
    (hL : LAt w2 X lb b L) (hX : ∀ y, X y → w1.heap.size ≤ y) (hz : w0.heap.size ≤ w1.heap.size) (hf : Fm (fun _ => False) w2 w3) (hP : PIn w3 Xp (fun _ => False) pb lb b fb ob F p) (hXp : ∀ y, Xp y → w2.heap.size ≤ y) (hwf : p.Wf) (hF : Fm (fun _ => False) w0 w3) :
    ∃ Y, Sys w0 w3 Y pb lb b ⟨p, L, d⟩ := by
  have hdl := hd.lt
  have hLl := hL.lt
  have h1 : SI w3 X Xp (fun _ => False) pb lb b g m fb ob F ⟨p, L, d⟩ := ⟨hL.keep0 hf, hd.keep0 hf, hP, hwf, fun y h1 h2 => by have := hLl y h1; have := hXp y h2; omega, ⟨fun e => by have := hX _ e; omega, fun e => by have := hX _ e; omega, fun e => by have := hX _ e; omega⟩, ⟨fun e => by have := hXp _ e; omega, fun e => by have := hXp _ e; omega, fun e => by have := hXp _ e; omega⟩⟩
  refine ⟨SY X Xp b g m, ⟨X, Xp, fun _ => False, g, m, fb, ob, F, h1, fun _ e => e⟩, fun y hy => ⟨?_, h1.lt y hy⟩, hF⟩
  have z2 := hF.size
  rcases hy with hy | hy | rfl | rfl | rfl
  · have := hX y hy; omega
  · have := hXp y hy
    have hb2 := hLl _ hL.lb
    have := hX _ hL.lb
    omega
  · exact hb.1.1
  · exact hb.1.2.1
  · exact hb.1.2.2
end

/-! ### A record that only takes a place -/
def nt : Rc := ⟨0, 0, 0, 2, 1, 0, 0, 0, 0, 0, [], [], [], [], [], []⟩
theorem bldNt (w : World) : (Instr.build 28 #[(3, .int .u8 2), (4, iv 1)]).run Tryz.prog w = .ok (.agg (rcs nt nl nl nl nl nl)) w := by kernel_rfl
theorem note_spec (w : World) : Cl Tryz.prog 31 [] w fun v w' => v = .agg (rcs nt nl nl nl nl nl) ∧ Fm (fun _ => False) w w' := by
  refine c31 ?_; unfold T31
  refine New_any ?_
  intro x w1 hx hs1 hw1 hf1
  refine RunS_ok (bldNt _) ?_
  refine St_all hw1 rfl rfl (rcs_one rfl rfl rfl rfl rfl) ?_
  intro w2 hw2 hs2 hf2
  have hret : RetO (resL Tryz.prog (fun j => bif Nat.beq j 0 then pv x else undef) w2 [(ResultVar.cell 0 28)]) w2 (fun v w' => v = .agg (rcs nt nl nl nl nl nl) ∧ Fm (fun _ => False) w w') := by
    simp only [resL, resV_blk (f := fun j => bif Nat.beq j 0 then pv x else undef) (a := 0) rfl agg52 size52 hw2 rfl, RetO, RetV]
    exact ⟨(by trivial), Fm.own hf1 hf2 (by rintro y rfl; omega)⟩
  exact hret
theorem nt_bnd : Bnd nt := ⟨by intro n hn; simp [rNums, nt, prs] at hn; unfold okN; omega, by simp [nt], by simp [nt], by simp [nt], by simp [nt], by simp [nt], by simp [nt], by simp [nt], by simp [nt]⟩
theorem nt_as (w : World) : RcAs w (rcs nt nl nl nl nl nl) nt := by
  have : Rows w 0 nt nl nl nl nl nl := ⟨World.ownsRow_nil _ _ _ _, World.ownsRow_nil _ _ _ _, ⟨[], rfl, World.ownsRow_nil _ _ _ _, by simp⟩, World.ownsRow_nil _ _ _ _, World.ownsRow_nil _ _ _ _⟩
  exact this.asR nt_bnd
theorem nt_lsns : ∀ m ∈ nt.imgs, m.2.lsn ≤ 9223372036854775807 := by intro m hm; cases hm

/-! ### A new one holds nothing -/
theorem sec8_zero {d : Dk} {a : Nat} (h : ∀ j, j < 8 → d.cur[a + j]? = some Dk.zsec) : sec8 d a = zeros 512 := by
  have e : (d.cur.drop a).take 8 = (List.replicate 8 Dk.zsec) := by
    apply List.ext_getElem?
    intro i
    rw [List.getElem?_take, List.getElem?_drop, List.getElem?_replicate]
    by_cases hi : i < 8
    · rw [if_pos hi, if_pos hi, h i hi]
    · rw [if_neg hi, if_neg hi]
  unfold sec8
  rw [e]; decide
theorem fmt_new {N n : Nat} (hN : N ≤ 65536) (hn : 4 ≤ n) (hnN : n ≤ N) : (∀ j, n ≤ j → j < N → (fmtE (Dk.mk0 N) ((0 : Nat) : Int) (n : Int)).1.cur[j]? = some Dk.zsec) ∧ ∀ j, Dk.isC (fmtE (Dk.mk0 N) ((0 : Nat) : Int) (n : Int)).1.chg j = false := by
  have hc := calm_mk0 hN
  have hl := mk0_len N
  have hf : fitsD (Dk.mk0 N) ((0 : Nat) : Int) (n : Int) = true := by
    unfold fitsD
    simp only [Bool.and_eq_true, decide_eq_true_eq]
    omega
  have e1 : ((n : Int) * 64).toNat = n * 64 := by omega
  have hz : (zeros (n * 64)).length = 64 * n := by rw [Lg.zeros_len']; omega
  obtain ⟨h1, h2, h3⟩ := hc.write (a := 0) (s := zeros (n * 64)) (by rw [hz]; omega) (by rw [hz]; omega)
  obtain ⟨g1, g2⟩ := write_calm hc (a := 0) (k := n) hz (by omega)
  obtain ⟨k1, k2, k3⟩ := h2.sync
  obtain ⟨q1, q2, q3, q4, q5⟩ := Dk.sync_calm h2.ar h2.on
  have hE : (fmtE (Dk.mk0 N) ((0 : Nat) : Int) (n : Int)).1 = ((Dk.mk0 N).write ((0 : Nat) : Int) (zeros (n * 64))).1.sync.1 := by
    unfold fmtE
    rw [hf, e1, cond_true]
    simp only [h1, decide_true, cond_true]
  rw [hE]
  refine ⟨fun j hj hjN => ?_, fun j => ?_⟩
  · rw [q2, g1, if_neg (by omega)]
    show (List.replicate N Dk.zsec)[j]? = _
    rw [List.getElem?_replicate, if_pos hjN]
  · have hch : ∀ e : Dk, Lg.Calm e → e.sync.1.chg = List.replicate e.tick.cur.length false := by
      intro e he
      unfold Dk.sync
      rw [he.on]
      simp only [cond_false, he.tick]
      rw [show ({ e with done := IntKind.i64.wrap (e.done + 1) } : Dk).gone = false from he.on]
      rfl
    rw [hch _ h2]; exact Dk.isC_rep _ _
theorem good_new {N n frm pages frames : Nat} (hN : N ≤ 65536) (hn : 4 ≤ n) (hf : n ≤ frm) (hp : frm + 8 * pages ≤ N) (h1 : 1 ≤ frames) : PGood ⟨newP (frm : Int) (pages : Int) (frames : Int), Lg.new 0 n, (fmtE (Dk.mk0 N) ((0 : Nat) : Int) (n : Int)).1⟩ (fun _ => none) := by
  obtain ⟨f1, f2⟩ := fmt_new hN hn (n := n) (N := N) (by omega)
  obtain ⟨g1, g2, g3⟩ := calm_fmt (calm_mk0 hN) (i := 0) (j := n) hn (by rw [mk0_len]; omega)
  rw [mk0_len] at g3
  generalize (fmtE (Dk.mk0 N) ((0 : Nat) : Int) (n : Int)).1 = d at f1 f2 g2 g3
  have hfr : ∀ (i : Nat) (f : Pf), (List.replicate frames pf0)[i]? = some f → f = pf0 := by
    intro i f hi
    exact List.eq_of_mem_replicate (List.mem_of_getElem? hi)
  have efr : (newP (frm : Int) (pages : Int) (frames : Int)).fr = List.replicate frames pf0 := by unfold newP; simp
  have epg : (newP (frm : Int) (pages : Int) (frames : Int)).pages = pages := by unfold newP; simp
  have efm : (newP (frm : Int) (pages : Int) (frames : Int)).frm = frm := by unfold newP; simp
  have hz : ∀ k, k < pages → (page ⟨newP (frm : Int) (pages : Int) (frames : Int), Lg.new 0 n, d⟩ k).2 ≠ 0 := by
    intro k hk
    unfold page
    simp only [efm]
    rw [sec8_zero (fun j hj => f1 _ (by omega) (by omega))]
    exact zeros_page
  refine ⟨Lg.wf_new hn (by omega), g2, ⟨?_, ?_⟩, ?_, ?_, ?_, ?_, ?_, ?_, ?_, ?_, fun _ _ _ j _ => f2 _⟩
  · simp only [efm]; show 0 + n ≤ frm; omega
  · simp only [efm, epg]; omega
  · simp only [efr, List.length_replicate]; exact h1
  · intro i f hi
    simp only [efr] at hi
    rw [hfr i f hi]; exact .inl rfl
  · intro i j f f' k hi _ e _
    simp only [efr] at hi
    rw [hfr i f hi] at e
    exact absurd e (pf0_num k)
  · intro i f k hi e
    simp only [efr] at hi
    rw [hfr i f hi] at e
    exact absurd e (pf0_num k)
  · intro k b e; cases e
  · intro i f k hi e
    simp only [efr] at hi
    rw [hfr i f hi] at e
    exact absurd e (pf0_num k)
  · intro k hk _
    simp only [epg] at hk
    exact ⟨fun b e => (by cases e), fun _ => hz k hk⟩
  · intro k hk e
    simp only [epg] at hk
    exact absurd e (hz k hk)

/-! ### What comes in -/
abbrev OpP := Int × Int × Int × PgT × Unit
def vOpP : Vw Tryz.prog 63 OpP := vStruct Tryz.underlying63 (fvCons rfl 1 (by kernel_rfl) vI (fvCons rfl 1 (by kernel_rfl) vI (fvCons rfl 1 (by kernel_rfl) vI (fvCons rfl 6 (by kernel_rfl) vPage fvNil)))) (by kernel_rfl)
def vOpPs : Vw Tryz.prog 53 (List OpP) := vSlice Tryz.underlying53 (by kernel_rfl) vOpP
def opB (x : OpP) : Pg := pgOf x.2.2.2.1
def opc (x : OpP) (u : Value) : Array Value := #[iv x.1, iv x.2.1, iv x.2.2.1, iv (opB x).lsn, iv (opB x).kind, iv (opB x).level, iv (opB x).right, stv (opB x).high, u]
theorem opP_ld {w : World} {v : Value} {xs : List OpP} (h : SliceAs vOpP w v xs) {i : Nat} {x : OpP} (hx : xs[i]? = some x) :
    ∃ ad u, ixV 9 v (iv (i : Int)) = some (.pointer (some ad)) ∧ cellsV w ad 9 = some (.agg (opc x u)) ∧ PgIn w (pcs (opB x) u) (opB x) ∧ In x.1 ∧ In x.2.1 ∧ In x.2.2.1 := by
  have hc : Tryz.prog.cellsOf 63 = 9 := by kernel_rfl
  have hc61 : Tryz.prog.cellsOf 61 = 6 := by kernel_rfl
  obtain ⟨ad, cs', h1, h2, h3, h4⟩ := h.ld hx hc .i64
  obtain ⟨ask, pg, pick, b, u⟩ := x
  obtain ⟨c0, r0, he, ⟨rfl, g0⟩, c1, r1, rfl, ⟨rfl, g1⟩, c2, r2, rfl, ⟨rfl, g2⟩, c3, r3, rfl, g3, hr⟩ := h2
  cases hr
  simp only at g0 g1 g2
  have hp := page_of (cs := c3.toArray) (by rw [List.toList_toArray]; exact g3)
  obtain ⟨v3, hv3, _⟩ := hp.isA.ex
  have hc3 : c3 = (pcs (pgOf b) v3).toList := by rw [← hv3]
  refine ⟨ad, v3, h1, ?_, ?_, i64_of_wf g0, i64_of_wf g1, i64_of_wf g2⟩
  · rw [h3, he, hc3]; rfl
  · rw [hv3] at hp; exact hp
structure OB (w : World) (x : Nat) (o : OpP) (u : Value) : Prop where
  h : w.heap[x]? = some (.cells (opc o u) 63)
section
variable {w w' : World} {S : Nat → Prop} {x : Nat} {o : OpP} {u : Value}
theorem OB.keep (h : OB w x o u) (hf : Fm S w w') (hs : ¬ S x) : OB w' x o u := ⟨hf.heap h.h hs⟩
theorem OB.c0 (h : OB w x o u) : w.cell? ⟨x, 0, none⟩ = some (iv o.1) := by rw [cell_at h.h]; rfl
theorem OB.c1 (h : OB w x o u) : w.cell? ⟨x, 1, none⟩ = some (iv o.2.1) := by rw [cell_at h.h]; rfl
theorem OB.c2 (h : OB w x o u) : w.cell? ⟨x, 2, none⟩ = some (iv o.2.2.1) := by rw [cell_at h.h]; rfl
theorem OB.body (h : OB w x o u) : cellsV w ⟨x, 3, none⟩ 6 = some (.agg (pcs (opB o) u)) := by
  refine cellsV_of (l := (pcs (opB o) u).toList) rfl (fun j hj => ?_)
  rw [add_none, cell_at h.h]
  match j, hj with
  | 0, _ => rfl
  | 1, _ => rfl
  | 2, _ => rfl
  | 3, _ => rfl
  | 4, _ => rfl
  | 5, _ => rfl
theorem opc_one {o : OpP} {u : Value} (h : u.oneCell' = true) : ∀ z ∈ (opc o u).toList, z.oneCell' = true := by
  intro z hz
  simp [opc] at hz
  rcases hz with rfl | rfl | rfl | rfl | rfl | rfl | rfl | rfl | rfl <;> first | rfl | assumption
end
def atP (b : Pg) (k : Int) : Pg := { b with lsn := k }
theorem pcs_at (b : Pg) (k : Int) (u : Value) : (pcs b u).setIfInBounds 0 (iv k) = pcs (atP b k) u := rfl
theorem PgAs.atP {w : World} {b : Pg} {u : Value} (h : PgAs w (pcs b u) b) {k : Int} (hk : In k) : PgAs w (pcs (atP b k) u) (atP b k) := by
  obtain ⟨v, h1, h2, h3⟩ := h.ex
  obtain rfl := pcs_inj h1
  exact ⟨⟨u, rfl, h2, h3⟩, h.small, hk, h.ins.2⟩
theorem PgAs.u1 {w : World} {b : Pg} {u : Value} (h : PgAs w (pcs b u) b) : u.oneCell' = true := by
  obtain ⟨v, h1, h2, h3⟩ := h.ex
  obtain rfl := pcs_inj h1
  exact h2
theorem nt_at {L : Lg} (h : L.Wf) : In (L.append nt).2.1 ∧ (L.append nt).2.1 < ((L.append nt).1.tail : Int) := by
  have hlow := h.low
  have hst := h.st
  unfold Lg.append
  cases hc : decide ((rCheck (atR nt L.tail)).2 = 0) with
  | false => simp only [cond_false]; unfold In; omega
  | true =>
    rw [decide_eq_true_eq] at hc
    cases decide (L.room < ((rEnc (atR nt L.tail)).1.length : Int)) with
    | true => simp only [cond_true]; unfold In; omega
    | false =>
      have := (Lg.enc_len hc (r := atR nt L.tail) nt_lsns).1
      simp only [cond_true, cond_false]
      refine ⟨by unfold In; omega, ?_⟩
      have ht : L.tail = L.base + L.kept.length := rfl
      show (L.tail : Int) < ((L.base + (L.kept ++ (rEnc (atR nt L.tail)).1).length : Nat) : Int)
      rw [List.length_append]; omega
end Go.Proofs.YthbngnlmgplijaaGreatDoor

namespace Go.Proofs
open Go.RowKit Go.Maps Go.Sort Go.Shelf
set_option linter.unusedVariables false
set_option linter.unusedSimpArgs false
set_option linter.unusedSectionVars false

def Tryz.sortedA_ren : Go.Shelf.Ren := ⟨fun | 6 => 118 | 8 => 188 | 9 => 189 | 11 => 218 | 13 => 220 | 12 => 219 | 23 => 237 | 24 => 238 | 14 => 228 | 15 => 229 | 16 => 230 | 17 => 231 | 18 => 232 | 19 => 233 | 20 => 234 | 21 => 235 | 22 => 236 | 25 => 244 | 26 => 245 | 27 => 246 | 28 => 247 | 29 => 248 | 30 => 249 | 31 => 251 | n => n, fun | 26 => 3 | 28 => 161 | 24 => 23 | 0 => 0 | 3 => 3 | 37 => 179 | 48 => 110 | 50 => 178 | 4 => 4 | 40 => 249 | 39 => 248 | 45 => 158 | 5 => 5 | 9 => 9 | 51 => 263 | 55 => 267 | 57 => 269 | 58 => 270 | 33 => 79 | n => n, fun | n => n⟩
theorem Tryz.sortedA : Go.Proofs.SlLaysZI.n6 Tryz.prog Tryz.sortedA_ren := {
  mixed := by kernel_rfl
  f6 := ⟨Tryz.f118.name, by decide, Tryz.func118.trans (congrArg some (by kernel_rfl))⟩
  f8 := ⟨Tryz.f188.name, by decide, Tryz.func188.trans (congrArg some (by kernel_rfl))⟩
  f11 := ⟨Tryz.f218.name, by decide, Tryz.func218.trans (congrArg some (by kernel_rfl))⟩
  t0 := Tryz.underlying0
  a0 := Tryz.isAgg0
  z0 := Tryz.sizeOf0
  v0 := Tryz.zeroValue0
  t24 := Tryz.underlying23
  a24 := Tryz.isAgg23
  z24 := Tryz.sizeOf23
  v24 := Tryz.zeroValue23
  t26 := Tryz.underlying3
  a26 := Tryz.isAgg3
  z26 := Tryz.sizeOf3
  v26 := Tryz.zeroValue3
  t28 := Tryz.underlying161
  a28 := Tryz.isAgg161
  z28 := Tryz.sizeOf161
  v28 := Tryz.zeroValue161
  i26 := by kernel_rfl }
def Tryz.sortI_ren : Go.Shelf.Ren := ⟨fun | 5 => 189 | 8 => 220 | 7 => 219 | 19 => 237 | 20 => 238 | 10 => 228 | 11 => 229 | 12 => 230 | 13 => 231 | 14 => 232 | 15 => 233 | 16 => 234 | 17 => 235 | 18 => 236 | 30 => 244 | 31 => 245 | 32 => 246 | 33 => 247 | 34 => 248 | 35 => 249 | 40 => 251 | n => n, fun | 23 => 23 | 25 => 3 | 3 => 3 | 32 => 179 | 22 => 23 | 0 => 0 | 44 => 110 | 46 => 178 | 4 => 4 | 36 => 249 | 35 => 248 | 41 => 158 | 5 => 5 | 9 => 9 | 53 => 263 | 57 => 267 | 63 => 269 | 64 => 270 | n => n, fun | n => n⟩
theorem Tryz.sortI : Go.Proofs.SlLaysM.n5 Tryz.prog Tryz.sortI_ren := {
  mixed := by kernel_rfl
  f5 := ⟨Tryz.f189.name, by decide, Tryz.func189.trans (congrArg some (by kernel_rfl))⟩
  f7 := ⟨Tryz.f219.name, by decide, Tryz.func219.trans (congrArg some (by kernel_rfl))⟩
  f8 := Tryz.func220.trans (congrArg some (by kernel_rfl))
  f10 := ⟨Tryz.f228.name, by decide, Tryz.func228.trans (congrArg some (by kernel_rfl))⟩
  f11 := ⟨Tryz.f229.name, by decide, Tryz.func229.trans (congrArg some (by kernel_rfl))⟩
  f12 := ⟨Tryz.f230.name, by decide, Tryz.func230.trans (congrArg some (by kernel_rfl))⟩
  f13 := ⟨Tryz.f231.name, by decide, Tryz.func231.trans (congrArg some (by kernel_rfl))⟩
  f14 := ⟨Tryz.f232.name, by decide, Tryz.func232.trans (congrArg some (by kernel_rfl))⟩
  f15 := ⟨Tryz.f233.name, by decide, Tryz.func233.trans (congrArg some (by kernel_rfl))⟩
  f16 := ⟨Tryz.f234.name, by decide, Tryz.func234.trans (congrArg some (by kernel_rfl))⟩
  f17 := ⟨Tryz.f235.name, by decide, Tryz.func235.trans (congrArg some (by kernel_rfl))⟩
  f18 := ⟨Tryz.f236.name, by decide, Tryz.func236.trans (congrArg some (by kernel_rfl))⟩
  f19 := Tryz.func237.trans (congrArg some (by kernel_rfl))
  f20 := Tryz.func238.trans (congrArg some (by kernel_rfl))
  f30 := ⟨Tryz.f244.name, by decide, Tryz.func244.trans (congrArg some (by kernel_rfl))⟩
  f31 := Tryz.func245.trans (congrArg some (by kernel_rfl))
  f32 := Tryz.func246.trans (congrArg some (by kernel_rfl))
  f33 := ⟨Tryz.f247.name, by decide, Tryz.func247.trans (congrArg some (by kernel_rfl))⟩
  f34 := ⟨Tryz.f248.name, by decide, Tryz.func248.trans (congrArg some (by kernel_rfl))⟩
  f35 := ⟨Tryz.f249.name, by decide, Tryz.func249.trans (congrArg some (by kernel_rfl))⟩
  f40 := ⟨Tryz.f251.name, by decide, Tryz.func251.trans (congrArg some (by kernel_rfl))⟩
  t0 := Tryz.underlying0
  a0 := Tryz.isAgg0
  z0 := Tryz.sizeOf0
  v0 := Tryz.zeroValue0
  t3 := Tryz.underlying3
  a3 := Tryz.isAgg3
  z3 := Tryz.sizeOf3
  v3 := Tryz.zeroValue3
  t4 := Tryz.underlying4
  a4 := Tryz.isAgg4
  z4 := Tryz.sizeOf4
  v4 := Tryz.zeroValue4
  t5 := Tryz.underlying5
  a5 := Tryz.isAgg5
  z5 := Tryz.sizeOf5
  v5 := Tryz.zeroValue5
  t9 := Tryz.underlying9
  a9 := Tryz.isAgg9
  z9 := Tryz.sizeOf9
  v9 := Tryz.zeroValue9
  t22 := Tryz.underlying23
  a22 := Tryz.isAgg23
  z22 := Tryz.sizeOf23
  v22 := Tryz.zeroValue23
  t23 := Tryz.underlying23
  a23 := Tryz.isAgg23
  z23 := Tryz.sizeOf23
  v23 := Tryz.zeroValue23
  t25 := Tryz.underlying3
  a25 := Tryz.isAgg3
  z25 := Tryz.sizeOf3
  v25 := Tryz.zeroValue3
  t32 := Tryz.underlying179
  a32 := Tryz.isAgg179
  z32 := Tryz.sizeOf179
  v32 := Tryz.zeroValue179
  t35 := Tryz.underlying248
  a35 := Tryz.isAgg248
  z35 := Tryz.sizeOf248
  v35 := Tryz.zeroValue248
  t36 := Tryz.underlying249
  a36 := Tryz.isAgg249
  z36 := Tryz.sizeOf249
  v36 := Tryz.zeroValue249
  t41 := Tryz.underlying158
  a41 := Tryz.isAgg158
  z41 := Tryz.sizeOf158
  v41 := Tryz.zeroValue158
  t44 := Tryz.underlying110
  a44 := Tryz.isAgg110
  z44 := Tryz.sizeOf110
  v44 := Tryz.zeroValue110
  t46 := Tryz.underlying178
  a46 := Tryz.isAgg178
  z46 := Tryz.sizeOf178
  v46 := Tryz.zeroValue178
  t53 := Tryz.underlying263
  a53 := Tryz.isAgg263
  z53 := Tryz.sizeOf263
  v53 := Tryz.zeroValue263
  t57 := Tryz.underlying267
  a57 := Tryz.isAgg267
  z57 := Tryz.sizeOf267
  v57 := Tryz.zeroValue267
  t63 := Tryz.underlying269
  a63 := Tryz.isAgg269
  z63 := Tryz.sizeOf269
  v63 := Tryz.zeroValue269
  t64 := Tryz.underlying270
  a64 := Tryz.isAgg270
  z64 := Tryz.sizeOf270
  v64 := Tryz.zeroValue270 }
def Tryz.keysA_ren : Go.Shelf.Ren := ⟨fun | 7 => 191 | 10 => 221 | n => n, fun | 23 => 124 | 26 => 3 | 3 => 9 | 28 => 161 | 0 => 0 | 27 => 160 | 33 => 79 | 4 => 4 | n => n, fun | n => n⟩
theorem Tryz.keysA : Go.Proofs.SlLaysZI.n7 Tryz.prog Tryz.keysA_ren := {
  mixed := by kernel_rfl
  f7 := ⟨Tryz.f191.name, by decide, Tryz.func191.trans (congrArg some (by kernel_rfl))⟩
  f10 := ⟨Tryz.f221.name, by decide, Tryz.func221.trans (congrArg some (by kernel_rfl))⟩
  t0 := Tryz.underlying0
  a0 := Tryz.isAgg0
  z0 := Tryz.sizeOf0
  v0 := Tryz.zeroValue0
  t4 := Tryz.underlying4
  a4 := Tryz.isAgg4
  z4 := Tryz.sizeOf4
  v4 := Tryz.zeroValue4
  t23 := Tryz.underlying124
  a23 := Tryz.isAgg124
  z23 := Tryz.sizeOf124
  v23 := Tryz.zeroValue124
  t26 := Tryz.underlying3
  a26 := Tryz.isAgg3
  z26 := Tryz.sizeOf3
  v26 := Tryz.zeroValue3
  t27 := Tryz.underlying160
  a27 := Tryz.isAgg160
  z27 := Tryz.sizeOf160
  v27 := Tryz.zeroValue160
  t28 := Tryz.underlying161
  a28 := Tryz.isAgg161
  z28 := Tryz.sizeOf161
  v28 := Tryz.zeroValue161
  t33 := Tryz.underlying79
  a33 := Tryz.isAgg79
  z33 := Tryz.sizeOf79
  v33 := Tryz.zeroValue79 }
def Tryz.keysB_ren : Go.Shelf.Ren := ⟨fun | 7 => 119 | 10 => 190 | n => n, fun | 23 => 146 | 26 => 3 | 3 => 3 | 28 => 161 | 0 => 0 | 27 => 160 | 33 => 79 | 4 => 4 | n => n, fun | n => n⟩
theorem Tryz.keysB : Go.Proofs.SlLaysZI.n7 Tryz.prog Tryz.keysB_ren := {
  mixed := by kernel_rfl
  f7 := ⟨Tryz.f119.name, by decide, Tryz.func119.trans (congrArg some (by kernel_rfl))⟩
  f10 := ⟨Tryz.f190.name, by decide, Tryz.func190.trans (congrArg some (by kernel_rfl))⟩
  t0 := Tryz.underlying0
  a0 := Tryz.isAgg0
  z0 := Tryz.sizeOf0
  v0 := Tryz.zeroValue0
  t4 := Tryz.underlying4
  a4 := Tryz.isAgg4
  z4 := Tryz.sizeOf4
  v4 := Tryz.zeroValue4
  t23 := Tryz.underlying146
  a23 := Tryz.isAgg146
  z23 := Tryz.sizeOf146
  v23 := Tryz.zeroValue146
  t26 := Tryz.underlying3
  a26 := Tryz.isAgg3
  z26 := Tryz.sizeOf3
  v26 := Tryz.zeroValue3
  t27 := Tryz.underlying160
  a27 := Tryz.isAgg160
  z27 := Tryz.sizeOf160
  v27 := Tryz.zeroValue160
  t28 := Tryz.underlying161
  a28 := Tryz.isAgg161
  z28 := Tryz.sizeOf161
  v28 := Tryz.zeroValue161
  t33 := Tryz.underlying79
  a33 := Tryz.isAgg79
  z33 := Tryz.sizeOf79
  v33 := Tryz.zeroValue79 }


theorem Tryz.sortsA (m : Nat) : AnyZI.SortsIn Tryz.prog Tryz.sortedA_ren Fence.wide m :=
  ⟨fun blk off cap ss W hH hblk hsz => callsIn_wide.2 (AnyM.slices_Sort_int Tryz.sortI blk off cap ss W hH hblk hsz),
   fun p cap W => callsIn_wide.2 (AnyM.slices_Sort_int_none Tryz.sortI p cap W)⟩

namespace YthbngnlmgplijaaGreatDoor
open Go.Al

theorem cl_ofS {g : FuncId} {args : List Value} {w : World} {R : Ending → World → Prop} {k : KV} (h : Calls Tryz.prog g args.toArray w R) (hk : ∀ e w', R e w' → ∃ v, e = .returned v ∧ k v w') : Cl Tryz.prog g args w k :=
  ⟨h.mono fun e w' he => by obtain ⟨v, rfl, hv⟩ := hk e w' he; exact hv⟩

theorem owns_int {β : Type} {kt : TypeId} (hk : Tryz.prog.underlying kt = some (.int .i64)) {w : World} {b : Nat} {vv : β → Value} {D : List (Int × β)} (h : MapAt w b (Value.int .i64) vv D) (hwf : ∀ p ∈ D, (Lit.int .i64 p.1).wf = true) (hsz : D.length ≤ maxLen) :
    ∃ D0 : DataW Unit, w.ownsMap Tryz.prog kt (fun _ => some (.nil, [])) b D.length D0 ∧ (intKeys D0).Perm (D.map (·.1)) ∧ Maps.size D0 = D.length := by
  obtain ⟨es, c, hb, he, hn, hlt⟩ := h.ex
  have hlen : es.size = D.length := by have := congrArg List.length he; simpa using this
  have hkey : ∀ x ∈ es.toList, ∃ p ∈ D, x.key = .int .i64 p.1 := by
    intro x hx
    have : (x.key, x.val) ∈ D.map (fun p => (Value.int .i64 p.1, vv p.2)) := by rw [← he]; exact List.mem_map.2 ⟨x, hx, rfl⟩
    obtain ⟨p, hp, hpe⟩ := List.mem_map.1 this
    simp only [Prod.mk.injEq] at hpe
    exact ⟨p, hp, hpe.1.symm⟩
  have hrd : ∀ x ∈ es.toList, ∀ p : Int × β, p ∈ D → x.key = .int .i64 p.1 → WideElems.rd (H := Unit) Tryz.prog kt (fun _ => some (.nil, [])) x = some (.int .i64 p.1, .nil) := by
    intro x hx p hp hxp
    unfold WideElems.rd
    rw [hxp, Maps.keyOf_int_mk hk (hwf p hp)]
    rfl
  have hks : es.toList.map (·.key) = D.map (fun p => Value.int .i64 p.1) := by
    have := congrArg (List.map Prod.fst) he
    simpa [List.map_map, Function.comp_def] using this
  have hF : WideElems.Fit (H := Unit) Tryz.prog kt (fun _ => some (.nil, [])) es c := by
    refine ⟨by omega, ⟨hlt, hn, ?_⟩, fun x hx => ?_⟩
    · rw [hks]
      have := h.keys
      rw [List.Nodup, List.pairwise_map] at this ⊢
      exact this.imp fun hne e => hne (by simpa using e)
    · obtain ⟨p, hp, hxp⟩ := hkey x hx
      exact ⟨_, hrd x hx p hp hxp⟩
  refine ⟨_, ⟨es, c, hb, hF, by omega, rfl⟩, ?_, ?_⟩
  · have h1 : (((es.toList.map (WideElems.rg (H := Unit) Tryz.prog kt (fun _ => some (.nil, [])))).foldr DataW.insert []).map fun p => Go.intOf p.1).Perm ((es.toList.map (WideElems.rg (H := Unit) Tryz.prog kt (fun _ => some (.nil, [])))).map fun p => Go.intOf p.1) := (WideShapes.sorted_perm _).map _
    have h2 : ((es.toList.map (WideElems.rg (H := Unit) Tryz.prog kt (fun _ => some (.nil, [])))).map fun p => Go.intOf p.1) = D.map (·.1) := by
      rw [List.map_map]
      have h3 : D.map (·.1) = (es.toList.map (·.key)).map (fun v => match v with | .int _ x => x | _ => 0) := by
        rw [hks, List.map_map]; rfl
      rw [h3, List.map_map]
      refine List.map_congr_left fun x hx => ?_
      obtain ⟨p, hp, hxp⟩ := hkey x hx
      simp only [Function.comp_apply, WideElems.rg, hrd x hx p hp hxp, hxp, Option.getD_some, Go.intOf]
    show (List.map _ _).Perm _
    rw [← h2]; exact h1
  · show List.length _ = _
    rw [(WideShapes.sorted_perm _).length_eq, List.length_map]
    simpa using hlen

theorem keysB_spec (mb : Option Nat) (w : World) : Cl Tryz.prog 119 [.map mb] w fun v w' => v = .func (.func 190) #[] #[.pointer (some ⟨w.heap.size, 0, none⟩)] ∧ w' = w.alloc (.cells #[.map mb] 146) := by
  have c : CallsIn Fence.wide 5 Tryz.prog 119 #[.map mb] w fun e w' => e = .returned (.func (.func 190) #[] #[.pointer (some ⟨w.heap.size, 0, none⟩)]) ∧ w' = w.alloc (.cells #[.map mb] 146) := AnyZI.keys_in Tryz.keysB Fence.wide 5 trivial rfl mb w
  exact cl_ofS (callsIn_wide.1 c) fun e w' ⟨h1, h2⟩ => ⟨_, h1, rfl, h2⟩


theorem sorted_of (g c : Nat) (hg : ∀ args w, (callFunc g args).run Tryz.prog w = .ok (.enter g args) w) (S : List Int → Prop) (N : Nat) (hNb : N * 8 ≤ 140737488355328) (w : World) (h : SeqGives Fence.wide 2 Tryz.prog g #[.pointer (some ⟨c, 0, none⟩)] encZ S N w) :
    Cl Tryz.prog 118 [.func (.func g) #[] #[.pointer (some ⟨c, 0, none⟩)]] w fun v w' => ∃ ss, S ss ∧ w'.ownsRow w.heap.size 3 1 v ss.length ((ss.mergeSort (fun x y => decide (x ≤ y))).map encZ) ∧ (v = .slice none 0 0 ↔ ss = []) ∧ Below w.heap.size w w' := by
  have cS := AnyZI.sorted_in Tryz.sortedA Fence.wide 5 trivial trivial trivial trivial rfl (by omega) (Tryz.sortsA _) (enters_of Tryz.func189 (by kernel_rfl) rfl) g #[.pointer (some ⟨c, 0, none⟩)] trivial hg S N (by unfold maxLen; omega) hNb w h
  change CallsIn _ _ Tryz.prog 118 _ _ _ at cS
  exact cl_ofS (callsIn_wide.1 cS) fun e w' ⟨v, ss, h1, h2, h3, h4, h5⟩ => ⟨v, h1, ss, h2, h3, h4, h5⟩

def sortK {β : Type} (D : List (Int × β)) : List Int := (D.map (·.1)).mergeSort (fun x y => decide (x ≤ y))

theorem sortedA_spec {β : Type} {w : World} {b : Nat} {vv : β → Value} {D : List (Int × β)} (h : MapAt w b (Value.int .i64) vv D) (hwf : ∀ p ∈ D, (Lit.int .i64 p.1).wf = true) (hsz : D.length * 8 ≤ 140737488355328) :
    Cl Tryz.prog 118 [.func (.func 221) #[] #[.pointer (some ⟨w.heap.size, 0, none⟩)]] (w.alloc (.cells #[.map (some b)] 124)) fun v w' => w'.ownsRow w.heap.size 3 1 v D.length ((sortK D).map encZ) ∧ (v = .slice none 0 0 ↔ D = []) ∧ Fm (fun _ => False) w w' := by
  have hm : D.length ≤ maxLen := by unfold maxLen; omega
  obtain ⟨D0, hown, hp, hs⟩ := owns_int (kt := 3) (by kernel_rfl) h hwf hm
  have hbl := hown.lt
  have hseq : SeqGives Fence.wide 2 Tryz.prog 221 #[.pointer (some ⟨w.heap.size, 0, none⟩)] encZ (fun ss => ss.Perm (intKeys D0)) (Maps.size D0) (w.alloc (.cells #[.map (some b)] 124)) :=
    AnyZI.keys_gives (ρ := Tryz.keysA_ren) { Tryz.keysA with } Fence.wide _ trivial rfl (by omega) w.heap.size b D.length D0 _ (by simp) (by simp) (by
      obtain ⟨es, clock, hb, Ft, hs, hD⟩ := hown
      exact ⟨es, clock, (Below.heap_alloc _ _ b hbl).trans hb, Ft, hs, hD⟩)
  refine (sorted_of 221 _ (enters_of Tryz.func221 (by kernel_rfl) rfl) _ _ (by omega) _ hseq).mono ?_
  rintro v w' ⟨ss, hS, hrow, hnil, hb⟩
  have hperm : ss.Perm (D.map (·.1)) := hS.trans hp
  have hl : ss.length = D.length := by simpa using hperm.length_eq
  refine ⟨?_, ?_, ?_⟩
  · have := ownsRow_base_a hrow (show w.heap.size ≤ _ by simp)
    rw [hl] at this
    rw [sortK, ← mergeSort_of_perm_i hperm]; exact this
  · rw [hnil]
    constructor
    · intro e; rw [e] at hl; exact List.eq_nil_of_length_eq_zero hl.symm
    · intro e; rw [e] at hl; exact List.eq_nil_of_length_eq_zero hl
  · exact (Fm.alloc _ _ _).trans (Fm.of_below hb _) (fun _ _ h => h) (fun _ _ h => h)
theorem sortedB_spec {β : Type} {w : World} {b : Nat} {vv : β → Value} {D : List (Int × β)} (h : MapAt w b (Value.int .i64) vv D) (hwf : ∀ p ∈ D, (Lit.int .i64 p.1).wf = true) (hsz : D.length * 8 ≤ 140737488355328) :
    Cl Tryz.prog 118 [.func (.func 190) #[] #[.pointer (some ⟨w.heap.size, 0, none⟩)]] (w.alloc (.cells #[.map (some b)] 146)) fun v w' => w'.ownsRow w.heap.size 3 1 v D.length ((sortK D).map encZ) ∧ (v = .slice none 0 0 ↔ D = []) ∧ Fm (fun _ => False) w w' := by
  have hm : D.length ≤ maxLen := by unfold maxLen; omega
  obtain ⟨D0, hown, hp, hs⟩ := owns_int (kt := 3) (by kernel_rfl) h hwf hm
  have hbl := hown.lt
  have hseq : SeqGives Fence.wide 2 Tryz.prog 190 #[.pointer (some ⟨w.heap.size, 0, none⟩)] encZ (fun ss => ss.Perm (intKeys D0)) (Maps.size D0) (w.alloc (.cells #[.map (some b)] 146)) :=
    AnyZI.keys_gives (ρ := Tryz.keysB_ren) { Tryz.keysB with } Fence.wide _ trivial rfl (by omega) w.heap.size b D.length D0 _ (by simp) (by simp) (by
      obtain ⟨es, clock, hb, Ft, hs, hD⟩ := hown
      exact ⟨es, clock, (Below.heap_alloc _ _ b hbl).trans hb, Ft, hs, hD⟩)
  refine (sorted_of 190 _ (enters_of Tryz.func190 (by kernel_rfl) rfl) _ _ (by omega) _ hseq).mono ?_
  rintro v w' ⟨ss, hS, hrow, hnil, hb⟩
  have hperm : ss.Perm (D.map (·.1)) := hS.trans hp
  have hl : ss.length = D.length := by simpa using hperm.length_eq
  refine ⟨?_, ?_, ?_⟩
  · have := ownsRow_base_a hrow (show w.heap.size ≤ _ by simp)
    rw [hl] at this
    rw [sortK, ← mergeSort_of_perm_i hperm]; exact this
  · rw [hnil]
    constructor
    · intro e; rw [e] at hl; exact List.eq_nil_of_length_eq_zero hl.symm
    · intro e; rw [e] at hl; exact List.eq_nil_of_length_eq_zero hl
  · exact (Fm.alloc _ _ _).trans (Fm.of_below hb _) (fun _ _ h => h) (fun _ _ h => h)



end YthbngnlmgplijaaGreatDoor
end Go.Proofs

namespace Go.Proofs.YthbngnlmgplijaaGreatDoor
open Go.Al Go.Proofs
set_option linter.unusedVariables false
set_option linter.unusedSimpArgs false
set_option linter.unusedSectionVars false
set_option maxRecDepth 100000

theorem keys_of_get {D D' : List (Int × Int)} (h : ∀ n, getD D n = getD D' n) : ∀ x, x ∈ D.map (·.1) ↔ x ∈ D'.map (·.1) := by
  intro x
  have h1 := getD_none (D := D) (a := x)
  have h2 := getD_none (D := D') (a := x)
  rw [h x] at h1
  constructor
  · intro hx
    exact Classical.byContradiction fun hn => h1.1 (h2.2 hn) hx
  · intro hx
    exact Classical.byContradiction fun hn => h2.1 (h1.2 hn) hx
theorem getD_inc : ∀ {D : List (Int × Int)}, (D.map (·.1)).Pairwise (· < ·) → ∀ {i : Nat} {x : Int × Int}, D[i]? = some x → getD D x.1 = some x.2
  | [], _, i, x, h => by simp at h
  | y :: D, hp, 0, x, h => by
    simp at h; subst h
    rw [getD_cons, if_pos rfl]
  | y :: D, hp, i + 1, x, h => by
    rw [List.map_cons, List.pairwise_cons] at hp
    have hx : D[i]? = some x := by simpa using h
    have := hp.1 x.1 (List.mem_map.2 ⟨x, List.mem_of_getElem? hx, rfl⟩)
    rw [getD_cons, if_neg (by omega)]
    exact getD_inc hp.2 hx
set_option maxHeartbeats 2000000 in
theorem pdirty_spec {w : World} {X Q : Nat → Prop} {pb lb db fb ob : Nat} {F : List PV} {p : Pl} (h : PIn w X Q pb lb db fb ob F p) {D : List (Int × Int)} (hg : ∀ n, getD p.owed n = getD D n) (hinc : (D.map (·.1)).Pairwise (· < ·)) (hrng : ∀ x ∈ D, 0 ≤ x.1 ∧ x.1 < 8192) :
    Cl Tryz.prog 44 [pv pb] w fun r w' => w'.ownsRow w.heap.size 120 2 r D.length (D.flatMap pc2) ∧ Fm (fun _ => False) w w' := by
  have hM := h.mp
  have hmem := keys_of_get hg
  have hsk : sortK p.owed = D.map (·.1) := by
    refine Dk.rising_eq ?_ hinc ?_
    · have h1 : (sortK p.owed).Pairwise (fun x y => decide (x ≤ y) = true) := List.pairwise_mergeSort (fun a b c h1 h2 => by simp at *; omega) (fun a b => by simp; omega) _
      have h2 : (sortK p.owed).Nodup := by rw [sortK]; exact (List.mergeSort_perm _ _).nodup_iff.2 hM.keys
      exact (h1.and h2).imp fun ⟨h, hn⟩ => by simp at h; omega
    · intro x
      rw [← hmem]
      unfold sortK
      exact List.mem_mergeSort
  have hlen : p.owed.length = D.length := by
    have := congrArg List.length hsk
    rw [sortK, List.length_mergeSort, List.length_map, List.length_map] at this
    exact this
  have hDl : D.length ≤ 8192 := by
    have := inc_len (D.map (·.1)) 0 8192 (by omega) (fun x hx => by
      obtain ⟨q, hq, rfl⟩ := List.mem_map.1 hx
      exact hrng q hq) hinc
    rw [List.length_map] at this
    omega
  have hwf : ∀ q ∈ p.owed, (Lit.int .i64 q.1).wf = true := by
    intro q hq
    obtain ⟨x, hx, e⟩ := List.mem_map.1 ((hmem q.1).1 (List.mem_map.2 ⟨q, hq, rfl⟩))
    have := hrng x hx
    show (decide (-9223372036854775808 ≤ q.1) && decide (q.1 ≤ 9223372036854775807)) = true
    simp; omega
  refine c44 ?_; unfold T44
  simp only [RS0, RS1, RS2, RS3, RS4, RS5, h.c5]
  refine (keysB_spec (some ob) w).mono ?_
  rintro _ _ ⟨rfl, rfl⟩
  refine (sortedB_spec hM hwf (by omega)).mono ?_
  rintro v w2 ⟨h1, _, hF2⟩
  rw [hlen, hsk, List.map_map] at h1
  have hcA := CellsAt.of_own h1
  have z2 := hF2.size
  have hlv := hcA.lenV
  simp only [RS0, RS1, RS2, RS3, RS4, RS5, hlv]
  refine ⟨fun vs w3 => ∃ (i : Nat) (u : Value), vs = [u, iv (i : Int)] ∧ i ≤ D.length ∧ w3.ownsRow w2.heap.size 120 2 u i ((D.take i).flatMap pc2) ∧ Fm (fun _ => False) w2 w3, fun vs _ => (D.length - nth vs 1).toNat, ⟨0, _, rfl, by omega, by simpa using World.ownsRow_nil w2 _ _ _, Fm.refl _ _⟩, ?_⟩
  rintro _ w3 u ivv ⟨i, _, hvs, hi, ho3, hF3⟩
  cases hvs
  have h3 := h.keep0 (Fmf hF2 hF3)
  by_cases hl : i < D.length
  · have d1 : decide ((i : Int) < (D.length : Int)) = true := by rw [decide_eq_true_eq]; omega
    have e1 : IntKind.i64.wrap ((i : Int) + 1) = ((i + 1 : Nat) : Int) := by rw [wrap_id] <;> omega
    have hx : D[i]? = some D[i] := List.getElem?_eq_getElem hl
    generalize D[i] = x at hx
    have hgx : getD p.owed x.1 = some x.2 := by rw [hg]; exact getD_inc hinc hx
    obtain ⟨ad, q1, _, q2⟩ := (hcA.keep hF3 (fun _ _ e => e)).at1 (i := i) (x := iv x.1) (by rw [List.getElem?_map, hx]; rfl) .i64
    simp only [RS0, RS1, RS2, RS3, RS4, RS5, d1, q1, q2, h3.c5]
    have hlk := lookup_run K146 h3.mp x.1 false (z := iv 0) (by kernel_rfl)
    rw [hgx] at hlk
    refine RunS_ok hlk ?_
    simp only [okV, cond_false]
    refine RunS_ok (bld96 _ _ _) ?_
    refine append_el Er49 (by omega) 25 (cs := pc2 x) rfl (bs49 _ _ _) (by intro u hu; simp [pc2] at hu; rcases hu with rfl | rfl <;> rfl) ho3 (by unfold maxLen; omega) (by omega) hF3.size ?_
    intro u4 w4 ho4 _ hf4
    simp only [RS0, RS1, RS2, RS3, RS4, RS5, e1]
    refine ⟨⟨i + 1, u4, rfl, by omega, ?_, Fm.own hF3 hf4 (fun y hy => hy)⟩, by simp only [nth_1]; omega⟩
    rw [List.take_add_one, hx, List.flatMap_append]
    simpa using ho4
  · have hie : i = D.length := by omega
    subst hie
    have d1 : decide (((D.length : Nat) : Int) < (D.length : Int)) = false := by simp
    rw [List.take_length] at ho3
    simp only [RS0, RS1, RS2, RS3, RS4, RS5, d1]
    exact ⟨own_base ho3 z2, Fmf hF2 hF3⟩
theorem pheld_spec {w : World} {X Q : Nat → Prop} {pb lb db fb ob : Nat} {F : List PV} {p : Pl} (h : PIn w X Q pb lb db fb ob F p) (hw : F.length ≤ 1024) : Cl Tryz.prog 45 [pv pb] w fun r w' => w'.ownsRow w.heap.size 3 1 r p.fr.length (p.fr.map fun f => iv f.num) ∧ Fm (fun _ => False) w w' := by
  have hlen := h.len
  refine c45 ?_; unfold T45
  simp only [RS0, RS1, RS2, RS3, RS4, RS5, h.c4]
  refine ⟨fun vs w2 => ∃ (i : Nat) (u : Value), vs = [u, iv (i : Int)] ∧ i ≤ F.length ∧ w2.ownsRow w.heap.size 3 1 u i ((p.fr.take i).map fun f => iv f.num) ∧ Fm (fun _ => False) w w2, fun vs _ => (F.length - nth vs 1).toNat, ⟨0, _, rfl, by omega, by simpa using World.ownsRow_nil w _ _ _, Fm.refl _ _⟩, ?_⟩
  rintro _ w2 u ivv ⟨i, _, hvs, hi, ho2, hF2⟩
  cases hvs
  have h2 := h.keep0 hF2
  by_cases hl : i < F.length
  · have d1 : decide ((i : Int) < (F.length : Int)) = true := by rw [decide_eq_true_eq]; omega
    have e1 : IntKind.i64.wrap ((i : Int) + 1) = ((i + 1 : Nat) : Int) := by rw [wrap_id] <;> omega
    have hx : F[i]? = some F[i] := List.getElem?_eq_getElem hl
    generalize F[i] = x at hx
    obtain ⟨g1, _⟩ := h.frg hx
    simp only [RS0, RS1, RS2, RS3, RS4, RS5, d1, h2.c4, PIn.ix i hl fb, h2.f6 hx]
    refine append_el dE23 (by omega) 23 (cs := [iv x.1.num]) rfl (dbs23 _ _) (by intro u hu; simp at hu; subst hu; rfl) ho2 (by unfold maxLen; omega) (by omega) hF2.size ?_
    intro u3 w3 ho3 _ hf3
    simp only [RS0, RS1, RS2, RS3, RS4, RS5, e1]
    refine ⟨⟨i + 1, u3, rfl, by omega, ?_, Fm.own hF2 hf3 (fun y hy => hy)⟩, by simp only [nth_1]; omega⟩
    rw [List.take_add_one, g1, List.map_append]
    simpa using ho3
  · have hie : i = p.fr.length := by omega
    subst hie
    have d1 : decide (((p.fr.length : Nat) : Int) < (F.length : Int)) = false := by rw [decide_eq_false_iff_not]; omega
    simp only [RS0, RS1, RS2, RS3, RS4, RS5, d1]
    rw [List.take_length] at ho2
    exact ⟨ho2, hF2⟩
theorem owed_same {w : World} {va vb : Value} {D : List (Int × Int)} (hA : CellsAt w va D.length 2 (D.flatMap pc2)) (hB : CellsAt w vb D.length 2 (D.flatMap pc2)) : Cl Tryz.prog 60 [va, vb] w fun r w' => r = .bool true ∧ Fm (fun _ => False) w w' := by
  have hlt := hA.lt
  unfold maxLen at hlt
  refine c60 ?_; unfold T60
  simp only [RS0, RS1, RS2, RS3, RS4, RS5, hA.lenV, hB.lenV, bne_self_eq_false]
  refine ⟨fun vl w2 => ∃ i : Nat, vl = [iv i] ∧ i ≤ D.length ∧ Fm (fun _ => False) w w2, fun vl _ => (D.length - nth vl 0).toNat, ⟨0, rfl, by omega, Fm.refl _ _⟩, ?_⟩
  rintro _ w2 ivv ⟨i, hvl, hi, hF⟩
  cases hvl
  by_cases hl : i < D.length
  · have d1 : decide ((i : Int) < (D.length : Int)) = true := by rw [decide_eq_true_eq]; omega
    have e1 : IntKind.i64.wrap ((i : Int) + 1) = ((i + 1 : Nat) : Int) := by rw [wrap_id] <;> omega
    have hx : D[i]? = some D[i] := List.getElem?_eq_getElem hl
    generalize D[i] = x at hx
    have hFd := Fmf hF (Fm.drew _ w2)
    obtain ⟨ad, h1, _, h2⟩ := (hA.keep hFd (fun _ _ e => e)).at (by omega) hl .i64
    obtain ⟨ad', h3, _, h4⟩ := (hB.keep hFd (fun _ _ e => e)).at (by omega) hl .i64
    have k0 := h2 0 (by omega)
    have k1 := h2 1 (by omega)
    have l0 := h4 0 (by omega)
    have l1 := h4 1 (by omega)
    rw [flat_get (f := pc2) (n := 2) (fun _ => rfl) hx (by omega)] at k0 k1 l0 l1
    rw [add_zero] at k0 l0
    have hh := neq96 (Operand.tmp 20) (Operand.tmp 24) x x w2.drew
    simp only [RS0, RS1, RS2, RS3, RS4, RS5, hA.lenV, d1, h1, h3, cellsV_2 k0 k1, cellsV_2 l0 l1, true_and]
    refine RunS_ok hh ⟨rfl, ?_⟩
    simp only [decide_true, Bool.not_true]
    simp only [RS0, RS1, RS2, RS3, RS4, RS5, e1]
    exact ⟨⟨i + 1, rfl, by omega, hFd⟩, by simp only [nth_0]; omega⟩
  · have hie : i = D.length := by omega
    subst hie
    have d1 : decide (((D.length : Nat) : Int) < (D.length : Int)) = false := by simp
    simp only [RS0, RS1, RS2, RS3, RS4, RS5, hA.lenV, d1]
    exact ⟨(by trivial), hF⟩
theorem sameints_same {w : World} {va vb : Value} {A : List Value} (hI : ∀ x ∈ A, ∃ n : Int, x = iv n) (hA : CellsAt w va A.length 1 A) (hB : CellsAt w vb A.length 1 A) : Cl Tryz.prog 62 [va, vb] w fun r w' => r = .bool true ∧ Fm (fun _ => False) w w' := by
  have hlt := hA.lt
  unfold maxLen at hlt
  refine c62 ?_; unfold T62
  simp only [RS0, RS1, RS2, RS3, RS4, RS5, hA.lenV, hB.lenV, bne_self_eq_false]
  refine ⟨fun vl w2 => ∃ i : Nat, vl = [iv i] ∧ i ≤ A.length ∧ Fm (fun _ => False) w w2, fun vl _ => (A.length - nth vl 0).toNat, ⟨0, rfl, by omega, Fm.refl _ _⟩, ?_⟩
  rintro _ w2 ivv ⟨i, hvl, hi, hF⟩
  cases hvl
  by_cases hl : i < A.length
  · have d1 : decide ((i : Int) < (A.length : Int)) = true := by rw [decide_eq_true_eq]; omega
    have e1 : IntKind.i64.wrap ((i : Int) + 1) = ((i + 1 : Nat) : Int) := by rw [wrap_id] <;> omega
    have hx : A[i]? = some A[i] := List.getElem?_eq_getElem hl
    generalize A[i] = x at hx
    obtain ⟨n, rfl⟩ := hI x (List.mem_of_getElem? hx)
    have hFd := Fmf hF (Fm.drew _ w2)
    obtain ⟨ad, h1, _, h2⟩ := (hA.keep hFd (fun _ _ e => e)).at1 (i := i) hx .i64
    obtain ⟨ad', h3, _, h4⟩ := (hB.keep hFd (fun _ _ e => e)).at1 (i := i) hx .i64
    simp only [RS0, RS1, RS2, RS3, RS4, RS5, hA.lenV, d1, h1, h3, h2, h4, true_and, bne_self_eq_false, e1]
    exact ⟨⟨i + 1, rfl, by omega, hFd⟩, by simp only [nth_0]; omega⟩
  · have hie : i = A.length := by omega
    subst hie
    have d1 : decide (((A.length : Nat) : Int) < (A.length : Int)) = false := by simp
    simp only [RS0, RS1, RS2, RS3, RS4, RS5, hA.lenV, d1]
    exact ⟨(by trivial), hF⟩

end Go.Proofs.YthbngnlmgplijaaGreatDoor

namespace Go.Proofs.YthbngnlmgplijaaGreatDoor
open Go.Al Go.Proofs
set_option linter.unusedVariables false
set_option linter.unusedSimpArgs false
set_option linter.unusedSectionVars false
set_option maxRecDepth 100000

def wo (s : PS) (D : List (Int × Int)) : PS := ⟨{ s.p with owed := D }, s.l, s.d⟩
def Lk (s t : PS) : Prop := ∃ D, t = wo s D ∧ ∀ n, getD D n = getD s.p.owed n
section
variable {s t : PS}
theorem Lk.put (h : Lk s t) (i : Nat) : (t.put i).2 = (s.put i).2 ∧ Lk (s.put i).1 (t.put i).1 := by
  obtain ⟨D, rfl, hD⟩ := h
  have e1 : (wo s D).p.get i = s.p.get i := rfl
  have e2 : (wo s D).putW i = s.putW i := rfl
  unfold PS.put
  rw [e1, e2]
  cases decide ((pEnc (s.p.get i).pg).2 = 0) with
  | false => exact ⟨rfl, D, rfl, hD⟩
  | true =>
    cases decide ((s.putW i).2 = 0) with
    | false => exact ⟨rfl, D, rfl, hD⟩
    | true => exact ⟨rfl, D, rfl, hD⟩
theorem Lk.synced (h : Lk s t) (l : Lg) (d : Dk) : Lk ⟨s.p.synced, l, d⟩ ⟨t.p.synced, l, d⟩ := by
  obtain ⟨D, rfl, hD⟩ := h
  refine ⟨D.filter (fun x => s.p.stays x.1), rfl, fun n => ?_⟩
  show getD (D.filter (fun x => s.p.stays x.1)) n = getD (s.p.owed.filter (fun x => s.p.stays x.1)) n
  rw [getD_filterK, getD_filterK, hD]
theorem Lk.write1 (h : Lk s t) (i : Nat) : (t.write1 i).2 = (s.write1 i).2 ∧ Lk (s.write1 i).1 (t.write1 i).1 := by
  have hs := h.synced
  have hp := h.put i
  obtain ⟨D, rfl, hD⟩ := h
  have e1 : (wo s D).p.get i = s.p.get i := rfl
  have e2 : (wo s D).flu i = s.flu i := rfl
  have e3 : (wo s D).l = s.l := rfl
  unfold PS.write1
  rw [e1, e2, e3]
  cases decide ((s.l.last : Int) ≤ (s.p.get i).pg.lsn) with
  | false => exact hp
  | true =>
    cases decide ((s.flu i).2.2 = 0) with
    | false => exact ⟨rfl, D, rfl, hD⟩
    | true => exact (hs _ _).put i
theorem Lk.lay (h : Lk s t) (i : Nat) (f : Pf) : Lk (s.lay i f) (t.lay i f) := by
  obtain ⟨D, rfl, hD⟩ := h
  exact ⟨D, rfl, hD⟩
theorem Lk.take (h : Lk s t) (pick : Int) : (t.take pick).2 = (s.take pick).2 ∧ Lk (s.take pick).1 (t.take pick).1 := by
  have hw := h.write1 (PS.pickAt s.p.fr.length pick)
  have hl := h.lay (PS.pickAt s.p.fr.length pick) pf0
  have e1 : t.p.hold (-1) = s.p.hold (-1) := by obtain ⟨D, rfl, hD⟩ := h; rfl
  have e2 : t.p.fr.length = s.p.fr.length := by obtain ⟨D, rfl, hD⟩ := h; rfl
  have e3 : t.p.get (PS.pickAt s.p.fr.length pick) = s.p.get (PS.pickAt s.p.fr.length pick) := by obtain ⟨D, rfl, hD⟩ := h; rfl
  unfold PS.take
  rw [e1, e2, e3]
  generalize PS.pickAt s.p.fr.length pick = k at *
  cases s.p.hold (-1) with
  | some i => exact ⟨rfl, h⟩
  | none =>
    simp only
    cases (s.p.get k).chg with
    | false => exact ⟨rfl, hl⟩
    | true =>
      simp only [cond_true]
      rw [hw.1]
      cases decide ((s.write1 k).2 = 0) with
      | false => exact ⟨rfl, hw.2⟩
      | true => exact ⟨rfl, hw.2.lay _ _⟩
theorem Lk.known (h : Lk s t) (n : Int) : t.p.known n = s.p.known n ∧ t.p.hold n = s.p.hold n ∧ (∀ i, t.p.get i = s.p.get i) ∧ t.raw n = s.raw n ∧ t.p.pages = s.p.pages := by
  obtain ⟨D, rfl, hD⟩ := h
  exact ⟨rfl, rfl, fun _ => rfl, rfl, rfl⟩
theorem Lk.fetch (h : Lk s t) (n pick : Int) : (t.fetch n pick).2 = (s.fetch n pick).2 ∧ Lk (s.fetch n pick).1 (t.fetch n pick).1 := by
  obtain ⟨e1, e2, e3, e4, e5⟩ := h.known n
  obtain ⟨t1, t2⟩ := h.take pick
  unfold PS.fetch
  rw [e1, e2, e4, t1]
  cases decide (s.p.known n = 0) with
  | false => exact ⟨rfl, h⟩
  | true =>
    simp only [cond_true]
    cases s.p.hold n with
    | some i => exact ⟨by simp only; rw [e3], h⟩
    | none =>
      simp only
      cases decide ((s.raw n).2 = 0) with
      | false => exact ⟨rfl, h⟩
      | true =>
        cases decide ((pDec (s.raw n).1).2 = 0) with
        | false => exact ⟨rfl, h⟩
        | true =>
          cases decide ((s.take pick).2.2 = 0) with
          | false => exact ⟨rfl, t2⟩
          | true => exact ⟨rfl, t2.lay _ _⟩
theorem Lk.write (h : Lk s t) (n : Int) : (t.write n).2 = (s.write n).2 ∧ Lk (s.write n).1 (t.write n).1 := by
  obtain ⟨e1, e2, e3, e4, e5⟩ := h.known n
  unfold PS.write
  rw [e1, e2]
  cases decide (s.p.known n = 0) with
  | false => exact ⟨rfl, h⟩
  | true =>
    simp only [cond_true]
    cases s.p.hold n with
    | none => exact ⟨rfl, h⟩
    | some i =>
      simp only
      rw [e3]
      cases (s.p.get i).chg with
      | false => exact ⟨rfl, h⟩
      | true => exact h.write1 i
theorem getD_setD {D : List (Int × Int)} {n l : Int} : ∀ m, getD (setD D n l) m = if n = m then some l else getD D m := by
  induction D with
  | nil => intro m; rw [setD, getD_cons]
  | cons x D ih =>
    intro m
    rw [setD]
    by_cases h : x.1 = n
    · rw [if_pos h, getD_cons, getD_cons]
      by_cases hm : n = m
      · simp [hm]
      · have : ¬ x.1 = m := fun e => hm (by rw [← h, e])
        simp [hm, this]
    · rw [if_neg h, getD_cons, getD_cons, ih]
      by_cases hm : x.1 = m
      · have : ¬ n = m := fun e => h (by rw [e, hm])
        simp [hm, this]
      · simp [hm]
theorem Lk.own (h : Lk s t) (i : Nat) (n : Int) (b : Pg) : Lk (s.own i n b) (rown t i n b) := by
  obtain ⟨D, rfl, hD⟩ := h
  unfold PS.own rown
  have e1 : (wo s D).p.owed = D := rfl
  rw [e1, hD n]
  cases hn : (getD s.p.owed n).isNone with
  | false => exact ⟨D, rfl, hD⟩
  | true =>
    refine ⟨insO n b.lsn D, rfl, fun m => ?_⟩
    show getD (insO n b.lsn D) m = getD (setD s.p.owed n b.lsn) m
    rw [insO_get (getD_mem.1 (by rw [hD]; exact hn)), getD_setD, hD]
theorem Lk.set (h : Lk s t) (n : Int) (b : Pg) (pick : Int) : (rset t n b pick).2 = (s.set n b pick).2 ∧ Lk (s.set n b pick).1 (rset t n b pick).1 := by
  obtain ⟨e1, e2, e3, e4, e5⟩ := h.known n
  obtain ⟨t1, t2⟩ := h.take pick
  unfold PS.set rset Pl.known
  rw [e2, e5, t1]
  cases decide (n < 0) || decide ((s.p.pages : Int) ≤ n) with
  | true => exact ⟨rfl, h⟩
  | false =>
    cases decide ((pEnc b).2 = 0) with
    | false => exact ⟨rfl, h⟩
    | true =>
      cases decide (b.lsn < 1) with
      | true => exact ⟨rfl, h⟩
      | false =>
        simp only [cond_true, cond_false, decide_true]
        cases s.p.hold n with
        | some i => exact ⟨rfl, h.own i n b⟩
        | none =>
          simp only
          cases decide ((s.take pick).2.2 = 0) with
          | false => exact ⟨rfl, t2⟩
          | true => exact ⟨rfl, t2.own _ n b⟩
theorem Lk.refl (s : PS) : Lk s s := ⟨s.p.owed, rfl, fun _ => rfl⟩
theorem Lk.l (h : Lk s t) : t.l = s.l ∧ t.d = s.d ∧ t.p.fr = s.p.fr ∧ ∀ n, getD s.p.owed n = getD t.p.owed n := by
  obtain ⟨D, rfl, hD⟩ := h
  exact ⟨rfl, rfl, rfl, fun n => (hD n).symm⟩
theorem Lk.ld (h : Lk s t) (l : Lg) (d : Dk) : Lk ⟨s.p, l, d⟩ ⟨t.p, l, d⟩ := by
  obtain ⟨D, rfl, hD⟩ := h
  exact ⟨D, rfl, hD⟩
end

end Go.Proofs.YthbngnlmgplijaaGreatDoor

namespace Go.Proofs.YthbngnlmgplijaaGreatDoor
open Go.Al Go.Proofs
set_option linter.unusedVariables false
set_option linter.unusedSimpArgs false
set_option linter.unusedSectionVars false
set_option maxRecDepth 100000

section
variable {w0 w w' : World} {Y Z S : Nat → Prop} {pb lb db fb : Nat} {s t : PS}
theorem RS.fetch (h : RS w Z pb lb db fb t) (n pick : Int) : Cl Tryz.prog 50 [pv pb, iv n, iv pick] w fun r w' => ∃ u, r = .tuple #[.agg (pcs (t.fetch n pick).2.1 u), iv (t.fetch n pick).2.2] ∧ PgOw w' w.heap.size (pcs (t.fetch n pick).2.1 u) (t.fetch n pick).2.1 ∧ RStep w Z pb lb db fb (t.fetch n pick).1 w' := by
  obtain ⟨Q, b0, cap, q, v, vT, F, ys, hi, h1, h2⟩ := h
  refine (rpfetch_spec hi n pick).mono ?_
  rintro r w' ⟨u, rfl, ho, hst⟩
  exact ⟨u, rfl, ho, hst.up h1⟩
theorem RS.set (h : RS w Z pb lb db fb t) {cs : Array Value} {b : Pg} (hb : ∀ w', Fm Z w w' → PgAs w' cs b) (n pick : Int) : Cl Tryz.prog 52 [pv pb, iv n, .agg cs, iv pick] w fun r w' => r = iv (rset t n b pick).2 ∧ RStep w Z pb lb db fb (rset t n b pick).1 w' := by
  obtain ⟨Q, b0, cap, q, v, vT, F, ys, hi, h1, h2⟩ := h
  refine (rpset_spec hi (fun w' hf => hb w' (hf.mono (fun y _ e => h1 y e))) n pick).mono ?_
  rintro r w' ⟨rfl, hst⟩
  exact ⟨rfl, hst.up h1⟩
theorem RS.write (h : RS w Z pb lb db fb t) (n : Int) : Cl Tryz.prog 53 [pv pb, iv n] w fun r w' => r = iv (t.write n).2 ∧ RStep w Z pb lb db fb (t.write n).1 w' := by
  obtain ⟨Q, b0, cap, q, v, vT, F, ys, hi, h1, h2⟩ := h
  refine (rpwrite_spec hi n).mono ?_
  rintro r w' ⟨rfl, hst⟩
  exact ⟨rfl, hst.up h1⟩
theorem RS.synced (h : RS w Z pb lb db fb t) : Cl Tryz.prog 55 [pv pb] w fun r w' => RStep w Z pb lb db fb ⟨t.p.synced, t.l, t.d⟩ w' := by
  obtain ⟨Q, b0, cap, q, v, vT, F, ys, hi, h1, h2⟩ := h
  refine hi.synced.mono ?_
  rintro r w' ⟨vT', h3, h4, hf⟩
  exact (RSI.step1 h3 (fun y hy => RSf.new (fun y hy => .inr (h4 y hy)) hy) hf).up h1
theorem RSI.disk {Q : Nat → Prop} {b0 cap : Nat} {q : DkL} {v vT : Value} {F : List PV} {ys : List Value} (h : RSI w Q b0 pb lb db fb cap q v vT F ys t) {d' : Dk} (hd : DkAt w' db q d') (hdw : d'.Wf) (hf : Fm (q.mine db) w w') : RStep w (RSf Q pb lb db fb q v vT) pb lb db fb ⟨t.p, t.l, d'⟩ w' := by
  refine RSI.step1 (s' := (⟨t.p, t.l, d'⟩ : PS)) (Q' := Q) (b0' := b0) (cap' := cap) (q' := q) (v' := v) (vT' := vT) (F' := F) (ys' := ys) ⟨hd, hdw, h.hl.keep hf (fun y hy e => (h.a1 e).1 hy), h.hp.keep hf ?_, h.qd, Nat.le_trans h.hb hf.size⟩ (fun y hy => .inl hy) (hf.mono (fun y _ e => .inl e))
  rintro y (hy | hy) e
  · exact (h.a1 e).2 hy
  · exact (h.qd y hy).1 e
theorem RS.dsync (h : RS w Z pb lb db fb t) : Cl Tryz.prog 54 [pv db] w fun r w' => r = iv t.d.sync.2 ∧ RStep w Z pb lb db fb ⟨t.p, t.l, t.d.sync.1⟩ w' := by
  obtain ⟨Q, b0, cap, q, v, vT, F, ys, hi, h1, h2⟩ := h
  refine (rdsync_spec hi.hd hi.dw).mono ?_
  rintro r w' ⟨rfl, hd, hf⟩
  exact ⟨rfl, (hi.disk hd hi.dw.sync hf).up h1⟩
theorem RS.arm (h : RS w Z pb lb db fb t) {a : Int} (ha : a ≤ 9223372036854775807) : Cl Tryz.prog 57 [pv db, iv a] w fun r w' => r = iv (t.d.arm a).2 ∧ RStep w Z pb lb db fb ⟨t.p, t.l, (t.d.arm a).1⟩ w' := by
  obtain ⟨Q, b0, cap, q, v, vT, F, ys, hi, h1, h2⟩ := h
  refine (rdarm_spec hi.hd).mono ?_
  rintro r w' ⟨rfl, hd, hf⟩
  exact ⟨rfl, (hi.disk hd (Dk.Wf.arm hi.dw ha) hf).up h1⟩
theorem RS.append (h : RS w Z pb lb db fb t) {cs : Array Value} {r : Rc} (hr : RcAs w cs r) : Cl Tryz.prog 51 [pv lb, .agg cs] w fun u w' => u = .tuple #[iv (t.l.append r).2.1, iv (t.l.append r).2.2] ∧ RStep w Z pb lb db fb ⟨t.p, (t.l.append r).1, t.d⟩ w' := by
  obtain ⟨Q, b0, cap, q, v, vT, F, ys, hi, h1, h2⟩ := h
  refine (rlappend_spec hi.hl hi.hb hr).mono ?_
  rintro u w' ⟨rfl, v', hl, hg, hf⟩
  refine ⟨rfl, (RSI.step1 (s' := (⟨t.p, (t.l.append r).1, t.d⟩ : PS)) (Q' := Q) (b0' := b0) (cap' := cap) (q' := q) (v' := v') (vT' := vT) (F' := F) (ys' := ys) ⟨hi.hd.keep hf (fun y hy e => (hi.a1 hy).1 e), hi.dw, hl, hi.hp.keep hf ?_, fun y hy => ⟨(hi.qd y hy).1, fun e => ?_⟩, Nat.le_trans hi.hb hf.size⟩ ?_ (hf.mono (fun y _ e => .inr (.inl e)))).up h1⟩
  · rintro y (hy | hy) e
    · exact hi.a2 e hy
    · exact (hi.qd y hy).2 e
  · have := (hi.hp.qs y hy).1
    rcases hg y e with e | e
    · exact (hi.qd y hy).2 e
    · omega
  · rintro y (e | e | e | e)
    · exact .inl (.inl e)
    · exact (hg y e).imp (fun e => .inr (.inl e)) id
    · exact .inl (.inr (.inr (.inl e)))
    · exact .inl (.inr (.inr (.inr e)))
theorem RS.dread (h : RS w Z pb lb db fb t) (a k : Int) : Cl Tryz.prog 59 [pv db, iv a, iv k] w fun v w' => v = .tuple #[stv (t.d.read a k).1, iv (t.d.read a k).2] ∧ Fm (fun _ => False) w w' := by
  obtain ⟨Q, b0, cap, q, v, vT, F, ys, hi, h1, h2⟩ := h
  exact rdread_spec hi.hd hi.dw a k
theorem RS.gone (h : RS w Z pb lb db fb t) : w.cell? ⟨db, 4, none⟩ = some (.bool t.d.gone) := by
  obtain ⟨Q, b0, cap, q, v, vT, F, ys, hi, h1, h2⟩ := h
  exact hi.hd.c4
theorem RS.owes (h : RS w Z pb lb db fb t) (n : Int) : Cl Tryz.prog 64 [pv pb, iv n] w fun v w' => v = .bool (!(getD t.p.owed n).isNone) ∧ w' = w := by
  obtain ⟨Q, b0, cap, q, v, vT, F, ys, hi, h1, h2⟩ := h
  exact rpowes_spec hi.hp n
theorem RS.flushed (h : RS w Z pb lb db fb t) : Cl Tryz.prog 65 [pv lb] w fun r w' => r = iv (t.l.last : Int) ∧ w' = w := by
  obtain ⟨Q, b0, cap, q, v, vT, F, ys, hi, h1, h2⟩ := h
  exact rlflushed_spec hi.hl
theorem RS.dirty (h : RS w Z pb lb db fb t) : Cl Tryz.prog 61 [pv pb] w fun r w' => w'.ownsRow w.heap.size 120 2 r t.p.owed.length (t.p.owed.flatMap pc2) ∧ Fm (fun _ => False) w w' := by
  obtain ⟨Q, b0, cap, q, v, vT, F, ys, hi, h1, h2⟩ := h
  exact rpdirty_spec hi.hp
theorem RS.held (h : RS w Z pb lb db fb t) : Cl Tryz.prog 63 [pv pb] w fun r w' => w'.ownsRow w.heap.size 3 1 r t.p.fr.length (t.p.fr.map fun f => iv f.num) ∧ Fm (fun _ => False) w w' := by
  obtain ⟨Q, b0, cap, q, v, vT, F, ys, hi, h1, h2⟩ := h
  exact rpheld_spec hi.hp
theorem RS.tbl (h : RS w Z pb lb db fb t) : (t.p.owed.map (·.1)).Pairwise (· < ·) ∧ ∀ x ∈ t.p.owed, 0 ≤ x.1 ∧ x.1 < 8192 := by
  obtain ⟨Q, b0, cap, q, v, vT, F, ys, hi, h1, h2⟩ := h
  refine ⟨hi.hp.inc, fun x hx => ?_⟩
  have := hi.hp.rng x hx
  have := hi.hp.wf.pg
  omega
theorem Sys.arm (h : Sys w0 w Y pb lb db s) {a : Int} (ha : a ≤ 9223372036854775807) : Cl Tryz.prog 56 [pv db, iv a] w fun v w' => v = iv (s.d.arm a).2 ∧ (∃ Y', Sys w0 w' Y' pb lb db ⟨s.p, s.l, (s.d.arm a).1⟩ ∧ Gr w Y Y') ∧ Fm Y w w' := by
  obtain ⟨Xl, Xp, Q, g, m, fb, ob, F, h1, h2⟩ := h.ex
  refine (darm_spec h1.hD ha).mono ?_
  rintro v w' ⟨rfl, hd, hf⟩
  obtain ⟨h3, hF⟩ := h1.disk hd (hf.mono (fun y _ e => .inl e))
  exact ⟨rfl, h.step h1 h2 h3 (fun y e => .inl e) (fun y e => .inl e) hF⟩
theorem Sys.dead (h : Sys w0 w Y pb lb db s) : Cl Tryz.prog 58 [pv db] w fun v w' => v = .bool s.d.gone ∧ w' = w := by
  obtain ⟨Xl, Xp, Q, g, m, fb, ob, F, h1, h2⟩ := h.ex
  exact ddead_spec h1.hD
theorem Sys.dirty (h : Sys w0 w Y pb lb db s) {D : List (Int × Int)} (hg : ∀ n, getD s.p.owed n = getD D n) (hinc : (D.map (·.1)).Pairwise (· < ·)) (hrng : ∀ x ∈ D, 0 ≤ x.1 ∧ x.1 < 8192) :
    Cl Tryz.prog 44 [pv pb] w fun r w' => w'.ownsRow w.heap.size 120 2 r D.length (D.flatMap pc2) ∧ Fm (fun _ => False) w w' := by
  obtain ⟨Xl, Xp, Q, g, m, fb, ob, F, h1, h2⟩ := h.ex
  exact pdirty_spec h1.hP hg hinc hrng
theorem Sys.held (h : Sys w0 w Y pb lb db s) : Cl Tryz.prog 45 [pv pb] w fun r w' => w'.ownsRow w.heap.size 3 1 r s.p.fr.length (s.p.fr.map fun f => iv f.num) ∧ Fm (fun _ => False) w w' := by
  obtain ⟨Xl, Xp, Q, g, m, fb, ob, F, h1, h2⟩ := h.ex
  exact pheld_spec h1.hP h1.flen.2
end
structure Bt (w0 w : World) (Y Z : Nat → Prop) (pb lb db pr lr dr fr : Nat) (s t : PS) : Prop where
  S : Sys w0 w Y pb lb db s
  R : RS w Z pr lr dr fr t
  ge : ∀ y, Z y → w0.heap.size ≤ y
  dj : ∀ y, Y y → ¬ Z y
section
variable {w0 w w' : World} {Y Z S Y' : Nat → Prop} {pb lb db pr lr dr fr : Nat} {s t s' t' : PS}
theorem Bt.keep0 (h : Bt w0 w Y Z pb lb db pr lr dr fr s t) (hf : Fm (fun _ => False) w w') : Bt w0 w' Y Z pb lb db pr lr dr fr s t := ⟨h.S.keep0 hf, h.R.keep0 hf, h.ge, h.dj⟩
theorem Bt.keep (h : Bt w0 w Y Z pb lb db pr lr dr fr s t) (hf : Fm S w w') (h1 : ∀ y, S y → ¬ Y y ∧ ¬ Z y ∧ w0.heap.size ≤ y) : Bt w0 w' Y Z pb lb db pr lr dr fr s t :=
  ⟨h.S.keep hf (fun y hy e => (h1 y e).1 hy) (fun y e => (h1 y e).2.2), h.R.keep hf (fun y hy e => (h1 y e).2.1 hy), h.ge, h.dj⟩
theorem Bt.prog (h : Bt w0 w Y Z pb lb db pr lr dr fr s t) (hS : Sys w0 w' Y' pb lb db s') (hG : Gr w Y Y') (hf : Fm Y w w') : Bt w0 w' Y' Z pb lb db pr lr dr fr s' t :=
  ⟨hS, h.R.keep hf (fun y hy e => h.dj y e hy), h.ge, fun y hy e => by
    rcases hG y hy with q | q
    · exact h.dj y q e
    · have := h.R.lt y e; omega⟩
theorem Bt.ref (h : Bt w0 w Y Z pb lb db pr lr dr fr s t) (hR : RStep w Z pr lr dr fr t' w') : ∃ Z', Bt w0 w' Y Z' pb lb db pr lr dr fr s t' ∧ Grw w Z Z' ∧ Fm Z w w' := by
  obtain ⟨⟨Z', hRS, hg⟩, hf⟩ := hR
  have z := h.S.fm.size
  refine ⟨Z', ⟨h.S.keep hf (fun y hy e => h.dj y hy e) h.ge, hRS, fun y hy => ?_, fun y hy e => ?_⟩, hg, hf⟩
  · rcases hg y hy with e | e
    · exact h.ge y e
    · omega
  · rcases hg y e with q | q
    · exact h.dj y hy q
    · have := (h.S.ge y hy).2; omega
theorem Grw.x {w : World} {Y Y' : Nat → Prop} (h : Grw w Y Y') {x : Nat} (hx : x < w.heap.size) (hn : ¬ Y x) : ¬ Y' x := fun e => by
  rcases h x e with q | q
  · exact hn q
  · omega
end

end Go.Proofs.YthbngnlmgplijaaGreatDoor
