/- Laid for one claim by slim.py out of: PoolOps2 PoolNew PoolSys PoolAw PoolNil AlCard. -/
import Derived.Test.YthbngnlmgplijaaGreatDoorPNilD
namespace Go.Proofs.YthbngnlmgplijaaGreatDoor
open Go.Al Go.Proofs
set_option linter.unusedVariables false
set_option linter.unusedSimpArgs false
set_option linter.unusedSectionVars false
set_option maxRecDepth 100000

abbrev nlv : Value := .slice none 0 0
theorem bldFr0 (w : World) : (Instr.build 143 #[(1, iv (-1))]).run Tryz.prog w = .ok (.agg (frC (pf0, nlv)).toArray) w := by kernel_rfl
theorem bldFr1 (p : Pg) (a : Option Addr) (j c : Nat) (n : Int) (w : World) : (Instr.build 143 #[(0, .agg (pcs p (.slice a j c))), (1, iv n)]).run Tryz.prog w = .ok (.agg (frC (⟨p, n, false⟩, .slice a j c)).toArray) w := by kernel_rfl
theorem bldFr2 (p : Pg) (a : Option Addr) (j c : Nat) (n : Int) (w : World) : (Instr.build 143 #[(0, .agg (pcs p (.slice a j c))), (1, iv n), (2, .bool true)]).run Tryz.prog w = .ok (.agg (frC (⟨p, n, true⟩, .slice a j c)).toArray) w := by kernel_rfl
theorem frC_one {x : PV} (h : x.2.oneCell' = true) : ∀ u ∈ (frC x).toArray.toList, u.oneCell' = true := by
  intro u hu
  simp [frC] at hu
  rcases hu with rfl | rfl | rfl | rfl | rfl | rfl | rfl | rfl <;> first | rfl | assumption
theorem PgAs.sl {w : World} {cs : Array Value} {p : Pg} (h : PgAs w cs p) : ∃ a j c, cs = pcs p (.slice a j c) := by
  obtain ⟨v, h1, _, h3⟩ := h.ex
  obtain ⟨a, j, c, rfl⟩ := cells_sl h3
  exact ⟨a, j, c, h1⟩
theorem put_len (s : PS) (i : Nat) : (s.put i).1.p.fr.length = s.p.fr.length ∧ (s.put i).1.p.pages = s.p.pages ∧ (s.put i).1.p.frm = s.p.frm := by
  unfold PS.put
  cases decide ((pEnc (s.p.get i).pg).2 = 0) with
  | false => exact ⟨rfl, rfl, rfl⟩
  | true =>
    cases decide ((s.putW i).2 = 0) with
    | false => exact ⟨rfl, rfl, rfl⟩
    | true => exact ⟨Pl.lay_len _ _ _, rfl, rfl⟩
theorem write1_len (s : PS) (i : Nat) : (s.write1 i).1.p.fr.length = s.p.fr.length ∧ (s.write1 i).1.p.pages = s.p.pages ∧ (s.write1 i).1.p.frm = s.p.frm := by
  unfold PS.write1
  cases decide ((s.l.last : Int) ≤ (s.p.get i).pg.lsn) with
  | false => exact put_len s i
  | true =>
    cases decide ((s.flu i).2.2 = 0) with
    | false => exact ⟨rfl, rfl, rfl⟩
    | true => exact put_len _ i
theorem take_len (s : PS) (pick : Int) : (s.take pick).1.p.pages = s.p.pages ∧ (s.take pick).1.p.frm = s.p.frm := by
  unfold PS.take
  cases s.p.hold (-1) with
  | some i => exact ⟨rfl, rfl⟩
  | none =>
    have := write1_len s (PS.pickAt s.p.fr.length pick)
    simp only
    cases (s.p.get (PS.pickAt s.p.fr.length pick)).chg with
    | false => exact ⟨rfl, rfl⟩
    | true =>
      cases decide ((s.write1 (PS.pickAt s.p.fr.length pick)).2 = 0) with
      | false => exact this.2
      | true => exact this.2
section
variable {w w' : World} {Xl Xp Q S : Nat → Prop} {pb lb db g m fb ob : Nat} {F : List PV} {s : PS}
/-- A whole frame is laid. -/
theorem St_frame {X : Nat → Prop} {p : Pl} (h : PIn w X Q pb lb db fb ob F p) {i : Nat} (hi : i < F.length) (x : PV) (h1 : x.2.oneCell' = true) {k : KV} (hk : ∀ w', w'.heap[fb]? = some (.cells ((F.set i x).flatMap frC).toArray 143) → w'.heap.size = w.heap.size → Fm (· = fb) w w' → k undef w') :
    St 8 w (.pointer (some ⟨fb, i * 8, none⟩)) (.agg (frC x).toArray) k := by
  refine St_blkN h.fr rfl (by rw [List.size_toArray, flat_len frC_len]; omega) (frC_one h1) ?_
  intro w' hw' hs' hf'
  rw [ov_eq _ _ _ (by rw [List.size_toArray, flat_len frC_len]; show i * 8 + 8 ≤ _; omega)] at hw'
  refine hk w' ?_ hs' hf'
  rw [hw', flat_split frC_len F i x hi]
  rfl
/-- A frame is laid: what is there then. -/
theorem SI.lay (h : SI w Xl Xp Q pb lb db g m fb ob F s) {Q' : Nat → Prop} {i : Nat} {x : PV} (hf : Fm S w w') (hS : ∀ y, S y → y = fb ∨ ¬ SY Xl Xp db g m y) (hfr : w'.heap[fb]? = some (.cells ((F.set i x).flatMap frC).toArray 143)) (hx : HeldP w' Q' x.2 x.1.pg)
    (hQ : ∀ y, Q y → Q' y) (hQ' : ∀ y, Q' y → Q y ∨ (¬ SY Xl Xp db g m y ∧ y < w'.heap.size)) (hn : x.1.num = -1 ∨ (0 ≤ x.1.num ∧ x.1.num < (s.p.pages : Int))) : SI w' Xl (fun y => Xp y ∨ Q' y) Q' pb lb db g m fb ob (F.set i x) (s.lay i x.1) := by
  have hfb := h.hP.xs.2.1
  have hno : ∀ y, SY Xl Xp db g m y → y ≠ fb → ¬ S y := fun y hy hne e => by
    rcases hS y e with e | e
    · exact hne e
    · exact e hy
  have hnq : ∀ y, ¬ Xp y → SY Xl Xp db g m y → ¬ Q' y := fun y h1 h2 e => by
    rcases hQ' y e with e | e
    · exact h1 (h.hP.xs.2.2.2 y e)
    · exact e.1 h2
  refine ⟨h.hL.keep hf (fun y hy => hno y (.inl hy) (by rintro rfl; exact h.lp _ hy hfb)), h.hD.keep hf (hno _ (.inr (.inr (.inl rfl))) (by rintro rfl; exact h.pd.1 hfb)) (hno _ (.inr (.inr (.inr (.inl rfl)))) (by rintro rfl; exact h.pd.2.1 hfb)) (hno _ (.inr (.inr (.inr (.inr rfl)))) (by rintro rfl; exact h.pd.2.2 hfb)), h.hP.put hf (fun y hy => ?_) hfr hx hQ (fun y hy => ?_), h.wf.lay hn, ?_, h.ld, ?_⟩
  · rcases hS y hy with e | e
    · exact .inl e
    · exact .inr (fun hx => e (.inr (.inl hx)))
  · rcases hQ' y hy with e | e
    · exact .inl e
    · exact .inr ⟨fun hx => e.1 (.inr (.inl hx)), e.2⟩
  · rintro y hy (e | e)
    · exact h.lp y hy e
    · exact hnq y (h.lp y hy) (.inl hy) e
  · refine ⟨?_, ?_, ?_⟩ <;> rintro (e | e)
    · exact h.pd.1 e
    · exact hnq _ h.pd.1 (.inr (.inr (.inl rfl))) e
    · exact h.pd.2.1 e
    · exact hnq _ h.pd.2.1 (.inr (.inr (.inr (.inl rfl)))) e
    · exact h.pd.2.2 e
    · exact hnq _ h.pd.2.2 (.inr (.inr (.inr (.inr rfl)))) e
theorem SI.same (h : SI w Xl Xp Q pb lb db g m fb ob F s) : (fun y => Xp y ∨ Q y) = Xp := by
  funext y
  exact propext ⟨fun e => e.elim (fun e => e) (h.hP.xs.2.2.2 y), .inl⟩
set_option maxHeartbeats 2000000 in
theorem ptake_spec (h : SI w Xl Xp Q pb lb db g m fb ob F s) (pick : Int) : Cl Tryz.prog 105 [pv pb, iv pick] w fun v w' => ∃ F', SI w' Xl Xp Q pb lb db g m fb ob F' (s.take pick).1 ∧ Fm (SY Xl Xp db g m) w w' ∧
    (((s.take pick).2.2 ≠ 0 ∧ v = .tuple #[.pointer none, iv (s.take pick).2.2]) ∨ ((s.take pick).2.2 = 0 ∧ v = .tuple #[.pointer (some ⟨fb, (s.take pick).2.1 * 8, none⟩), iv 0] ∧ (s.take pick).2.1 < F'.length)) := by
  have hfl := h.flen
  have hlen := h.hP.len
  refine c105 ?_; unfold T105
  refine (pholds_spec h.hP hfl.2 (-1)).mono ?_
  rintro _ w2 ⟨rfl, rfl⟩
  unfold PS.take
  cases hh : s.p.hold (-1) with
  | some i =>
    obtain ⟨f, hf, _⟩ := Pl.hold_some hh
    have := (List.getElem?_eq_some_iff.1 hf).1
    simp only [holdV]
    simp only [RS0, RS1, RS2, RS3, RS4, RS5]
    exact ⟨F, h, Fm.refl _ _, .inr ⟨(by trivial), (by trivial), by omega⟩⟩
  | none =>
    simp only [holdV]
    obtain ⟨m1, m2, m3, m4⟩ := mod3 (TypeDesc.int IntKind.i64) (n := F.length) (by omega) (by omega) pick
    have hpk : PS.pickAt s.p.fr.length pick = modN F.length pick := by unfold PS.pickAt; rw [hlen]
    rw [hpk]
    generalize modN F.length pick = i at m3 m4
    have hx : F[i]? = some F[i] := List.getElem?_eq_getElem m4
    generalize F[i] = x at hx
    rw [(h.hP.frg hx).2]
    have hfd := Fm.drew (fun _ => False) w2
    simp only [RS0, RS1, RS2, RS3, RS4, RS5, h.hP.c4, true_and, m1, m2, m3, PIn.ix i m4 fb]
    refine Jn_at (fun vs w' => vs = [] ∧ ∃ F1 s1, F1.length = F.length ∧ SI w' Xl Xp Q pb lb db g m fb ob F1 s1 ∧ Fm (SY Xl Xp db g m) w2 w' ∧ (bif x.1.chg then (bif decide ((s.write1 i).2 = 0) then ((s.write1 i).1.lay i pf0, i, 0) else ((s.write1 i).1, 0, (s.write1 i).2)) else (s.lay i pf0, i, 0)) = (s1.lay i pf0, i, 0)) ?_ ?_
    · rintro _ w4 ⟨rfl, F1, s1, hl1, h4, hF4, he⟩ _
      refine ⟨rfl, ?_⟩
      rw [he]
      refine RunS_ok (bldFr0 _) ?_
      simp only [RS0, RS1, RS2, RS3, RS4, RS5]
      refine St_frame h4.hP (i := i) (by omega) (pf0, nlv) rfl ?_
      intro w5 hw5 hs5 hf5
      have h5 := h4.lay (x := (pf0, nlv)) hf5 (fun y e => .inl e) hw5 (HeldP.zero _ _) (fun _ e => e) (fun y e => .inl e) (.inl rfl)
      rw [h4.same] at h5
      exact ⟨_, h5, SY_trans hF4 (hf5.mono (by rintro y _ rfl; exact .inr (.inl h4.hP.xs.2.1))), .inr ⟨(by trivial), (by trivial), by rw [List.length_set]; omega⟩⟩
    intro jj hjj
    have hd := h.keep0 hfd
    simp only [RS0, RS1, RS2, RS3, RS4, RS5, h.hP.f7 hx]
    cases hc : x.1.chg with
    | false =>
      rw [hc, cond_false] at hjj
      simp only [RS0, RS1, RS2, RS3, RS4, RS5]
      exact hjj _ _ ⟨rfl, F, s, rfl, hd, SY_of hfd, rfl⟩
    | true =>
      rw [hc, cond_true] at hjj
      simp only [cond_true]
      simp only [RS0, RS1, RS2, RS3, RS4, RS5]
      refine (pwrite1_spec hd hx).mono ?_
      rintro _ w3 ⟨rfl, ⟨F', h3⟩, hF3⟩
      have hF3' := SY_trans (SY_of hfd) hF3
      simp only [RS0, RS1, RS2, RS3, RS4, RS5, bne_dec]
      cases hq : decide ((s.write1 i).2 = 0) with
      | true =>
        rw [hq, cond_true] at hjj
        simp only [RS0, RS1, RS2, RS3, RS4, RS5]
        exact hjj _ _ ⟨rfl, F', (s.write1 i).1, by rw [h3.hP.len, (write1_len s i).1, hlen], h3, hF3', rfl⟩
      | false =>
        rw [decide_eq_false_iff_not] at hq
        simp only [RS0, RS1, RS2, RS3, RS4, RS5, cond_false]
        exact ⟨F', h3, hF3', .inl ⟨hq, (by trivial)⟩⟩
theorem read_le {d : Dk} (h : d.Wf) (a k : Int) : (d.read a k).1.length ≤ 64 * 65536 := by
  unfold Dk.read
  cases d.gone with
  | true => simp
  | false =>
    cases d.has a k with
    | false => simp
    | true =>
      simp only [cond_false, Bool.not_true]
      rw [Dk.flat_len (fun x hx => h.s1 x (List.mem_of_mem_drop (List.mem_of_mem_take hx))), List.length_take, List.length_drop]
      have := h.n1
      omega
theorem known_range {p : Pl} {n : Int} (h : p.known n = 0) : 0 ≤ n ∧ n < (p.pages : Int) := by
  unfold Pl.known at h
  cases h1 : decide (n < 0) with
  | true => rw [h1] at h; cases h
  | false =>
    cases h2 : decide ((p.pages : Int) ≤ n) with
    | true => rw [h1, h2] at h; cases h
    | false =>
      rw [decide_eq_false_iff_not] at h1 h2
      omega
theorem retPf {w : World} {g : Nat} {cs : Array Value} {u : Value} (h : w.heap[g]? = some (.cells cs 61)) (hn : cs.size = 6) {k : KV} (hk : k (.tuple #[.agg cs, u]) w) : RetO (resL Tryz.prog (fun j => bif Nat.beq j 6 then pv g else bif Nat.beq j 7 then u else undef) w [(ResultVar.cell 6 61), (ResultVar.tmp 7)]) w k :=
  retPg (g := g) (i := 6) (j := 7) (u := u) h hn rfl rfl k hk
theorem pcs_inj {p : Pg} {v u : Value} (h : pcs p v = pcs p u) : v = u := by
  have e : (pcs p v).toList = (pcs p u).toList := by rw [h]
  simpa [pcs] using e
set_option maxHeartbeats 4000000 in
theorem pfetch_spec (h : SI w Xl Xp Q pb lb db g m fb ob F s) (n pick : Int) : Cl Tryz.prog 33 [pv pb, iv n, iv pick] w fun v w' => ∃ u, v = .tuple #[.agg (pcs (s.fetch n pick).2.1 u), iv (s.fetch n pick).2.2] ∧ PgOw w' w.heap.size (pcs (s.fetch n pick).2.1 u) (s.fetch n pick).2.1 ∧
    (∃ Xp' Q' F', SI w' Xl Xp' Q' pb lb db g m fb ob F' (s.fetch n pick).1 ∧ (∀ y, Xp' y → Xp y ∨ w.heap.size ≤ y) ∧ ∀ k, u.ownBlock = some k → ¬ Xp' k) ∧ Fm (SY Xl Xp db g m) w w' := by
  have hfl := h.flen
  have hlt := h.lt
  have hfetch : s.fetch n pick = bif decide (s.p.known n = 0) then (match s.p.hold n with
    | some i => (s, (s.p.get i).pg, 0)
    | none => bif decide ((s.raw n).2 = 0) then (bif decide ((pDec (s.raw n).1).2 = 0) then (bif decide ((s.take pick).2.2 = 0) then ((s.take pick).1.lay (s.take pick).2.1 ⟨(pDec (s.raw n).1).1, n, false⟩, (pDec (s.raw n).1).1, 0) else ((s.take pick).1, pg0, (s.take pick).2.2)) else (s, pg0, 60)) else (s, pg0, (s.raw n).2))
    else (s, pg0, s.p.known n) := rfl
  refine c33 ?_; unfold T33
  rw [pg0_cells]
  refine New_any ?_
  intro x1 w1 hx1 hs1 hw1 hf1
  have h1 := h.keep0 hf1
  have bad : ∀ {w2 : World} {Xp' Q' F'} {s' : PS}, SI w2 Xl Xp' Q' pb lb db g m fb ob F' s' → (∀ y, Xp' y → Xp y ∨ w.heap.size ≤ y) → w2.heap[x1]? = some (.cells (pcs pg0 nlv) 61) → ¬ SY Xl Xp' db g m x1 → Fm (SY Xl Xp db g m) w w2 → ∀ e : Int, s.fetch n pick = (s', pg0, e) →
      St 6 w2 (pv x1) (.agg (pcs pg0 nlv)) fun u_8 w_9 => RetO (resL Tryz.prog (fun j => bif Nat.beq j 6 then pv x1 else bif Nat.beq j 7 then iv e else undef) w_9 [(ResultVar.cell 6 61), (ResultVar.tmp 7)]) w_9 (fun v w' => ∃ u, v = .tuple #[.agg (pcs (s.fetch n pick).2.1 u), iv (s.fetch n pick).2.2] ∧ PgOw w' w.heap.size (pcs (s.fetch n pick).2.1 u) (s.fetch n pick).2.1 ∧
    (∃ Xp' Q' F', SI w' Xl Xp' Q' pb lb db g m fb ob F' (s.fetch n pick).1 ∧ (∀ y, Xp' y → Xp y ∨ w.heap.size ≤ y) ∧ ∀ k, u.ownBlock = some k → ¬ Xp' k) ∧ Fm (SY Xl Xp db g m) w w') := by
    intro w2 Xp' Q' F' s' h2 hX hw2 hno hF e he
    rw [he]
    refine St_all hw2 rfl rfl (pcs_one rfl) ?_
    intro w3 hw3 hs3 hf3
    refine retPf hw3 rfl ⟨nlv, rfl, PgOw.zero _ _, ⟨Xp', Q', F', h2.keep hf3 (by rintro y hy rfl; exact hno hy), hX, fun k hk => by cases hk⟩, hF.trans hf3 (fun _ _ e => e) (by rintro y hy rfl; omega)⟩
  have good : ∀ {w2 : World} {Xp' Q' F'} {s' : PS} {i : Nat} {x : PV}, SI w2 Xl Xp' Q' pb lb db g m fb ob F' s' → (∀ y, Xp' y → Xp y ∨ w.heap.size ≤ y) → w2.heap[x1]? = some (.cells (pcs pg0 nlv) 61) → ¬ SY Xl Xp' db g m x1 → Fm (SY Xl Xp db g m) w w2 → F'[i]? = some x → s.fetch n pick = (s', x.1.pg, 0) →
      Cl Tryz.prog 107 [.pointer (some ⟨fb, i * 8, none⟩)] w2 fun t71 w_66 => St 6 w_66 (pv x1) t71 fun u_8 w_9 => RetO (resL Tryz.prog (fun j => bif Nat.beq j 6 then pv x1 else bif Nat.beq j 7 then iv 0 else undef) w_9 [(ResultVar.cell 6 61), (ResultVar.tmp 7)]) w_9 (fun v w' => ∃ u, v = .tuple #[.agg (pcs (s.fetch n pick).2.1 u), iv (s.fetch n pick).2.2] ∧ PgOw w' w.heap.size (pcs (s.fetch n pick).2.1 u) (s.fetch n pick).2.1 ∧
    (∃ Xp' Q' F', SI w' Xl Xp' Q' pb lb db g m fb ob F' (s.fetch n pick).1 ∧ (∀ y, Xp' y → Xp y ∨ w.heap.size ≤ y) ∧ ∀ k, u.ownBlock = some k → ¬ Xp' k) ∧ Fm (SY Xl Xp db g m) w w') := by
    intro w2 Xp' Q' F' s' i x h2 hX hw2 hno hF hx he
    rw [he]
    refine (pfresh_spec h2.hP hx).mono ?_
    rintro _ w3 ⟨cs, rfl, ho, hf3⟩
    obtain ⟨u, rfl, hou⟩ := ho.ex
    have hul := own_lt hou
    have h3 := h2.keep0 hf3
    have z2 := hF.size
    have hx1l := lt_of_heap hw2
    refine St_all (hf3.heap hw2 (fun e => e)) rfl rfl (pcs_one (own_one hou)) ?_
    intro w4 hw4 hs4 hf4
    refine retPf hw4 rfl ⟨u, rfl, ⟨⟨u, rfl, own_base (own_keep hou hf4 (fun k hk _ _ e => by omega)) z2⟩, ho.small, ho.ins⟩, ⟨Xp', Q', F', h3.keep hf4 (by rintro y hy rfl; exact hno hy), hX, fun k hk e => ?_⟩, (SY_trans hF (SY_of hf3)).trans hf4 (fun _ _ e => e) (by rintro y hy rfl; omega)⟩
    have := (hul k hk).1
    have := h2.lt k (.inr (.inl e))
    omega
  have hnx : ¬ SY Xl Xp db g m x1 := fun e => by have := hlt _ e; omega
  refine (pknown_spec h1.hP n).mono ?_
  rintro _ w1 ⟨rfl, rfl⟩
  simp only [RS0, RS1, RS2, RS3, RS4, RS5, bne_dec]
  cases hk : decide (s.p.known n = 0) with
  | false =>
    rw [hk, cond_false] at hfetch
    simp only [RS0, RS1, RS2, RS3, RS4, RS5]
    refine RunS_ok (bld24z _) ?_
    exact bad h1 (fun y e => .inl e) hw1 hnx (SY_of hf1) _ hfetch
  | true =>
    rw [hk, cond_true] at hfetch
    rw [decide_eq_true_eq] at hk
    have hrange := known_range hk
    have hpg := h.wf.pg
    simp only [RS0, RS1, RS2, RS3, RS4, RS5]
    refine (pholds_spec h1.hP hfl.2 n).mono ?_
    rintro _ w1 ⟨rfl, rfl⟩
    cases hh : s.p.hold n with
    | some i =>
      rw [hh] at hfetch
      obtain ⟨f, hf, _⟩ := Pl.hold_some hh
      rw [← h.hP.fs, List.getElem?_map, Option.map_eq_some_iff] at hf
      obtain ⟨x, hx, rfl⟩ := hf
      simp only [(h.hP.frg hx).2] at hfetch
      simp only [holdV]
      simp only [RS0, RS1, RS2, RS3, RS4, RS5]
      exact good h1 (fun y e => .inl e) hw1 hnx (SY_of hf1) hx hfetch
    | none =>
      rw [hh] at hfetch
      simp only at hfetch
      simp only [holdV]
      have hfd := Fm.drew (fun _ => False) w1
      have e1 : IntKind.i64.wrap (8 * n) = 8 * n := by rw [wrap_id]; omega
      have e2 : IntKind.i64.wrap ((s.p.frm : Int) + 8 * n) = (s.p.frm : Int) + 8 * n := by rw [wrap_id]; omega
      have h2 := h1.keep0 hfd
      have hw2 := hfd.heap hw1 (fun e => e)
      have hF2 := Fmf hf1 hfd
      have hle := read_le h.hD.wf ((s.p.frm : Int) + 8 * n) 8
      have hraw : s.raw n = s.d.read ((s.p.frm : Int) + 8 * n) 8 := rfl
      simp only [RS0, RS1, RS2, RS3, RS4, RS5, h1.hP.c0, h1.hP.c2, true_and, e1, e2]
      refine (dread_spec h2.hD ((s.p.frm : Int) + 8 * n) 8).mono ?_
      rintro _ w2 ⟨rfl, rfl⟩
      rw [← hraw] at hle ⊢
      generalize s.raw n = r at hfetch hle
      obtain ⟨rs, re⟩ := r
      simp only at hfetch hle
      simp only [RS0, RS1, RS2, RS3, RS4, RS5, bne_dec]
      cases hr : decide (re = 0) with
      | false =>
        rw [hr, cond_false] at hfetch
        simp only [RS0, RS1, RS2, RS3, RS4, RS5]
        refine RunS_ok (bld24z _) ?_
        exact bad h2 (fun y e => .inl e) hw2 hnx (SY_of hF2) _ hfetch
      | true =>
        rw [hr, cond_true] at hfetch
        simp only [RS0, RS1, RS2, RS3, RS4, RS5]
        refine (decode_spec _ rs (by omega)).mono ?_
        rintro _ w3 ⟨cs, rfl, ho3, hf3⟩
        generalize pDec rs = pd at hfetch ho3
        obtain ⟨pg, pe⟩ := pd
        simp only at hfetch ho3
        obtain ⟨v3, rfl, hou3⟩ := ho3.ex
        obtain ⟨a3, j3, c3, rfl⟩ := cells_sl (CellsAt.of_own hou3)
        have hF3 := Fmf hF2 hf3
        have h3 := h2.keep0 hf3
        have hw3 := hf3.heap hw2 (fun e => e)
        simp only [RS0, RS1, RS2, RS3, RS4, RS5]
        refine New_any ?_
        intro x4 w4 hx4 hs4 hw4 hf4
        refine St_all hw4 rfl rfl (pcs_one rfl) ?_
        intro w5 hw5 hs5 hf5
        have hF5 : Fm (fun _ => False) w3 w5 := Fm.own hf4 hf5 (by rintro y rfl; omega)
        have hF05 := Fmf hF3 hF5
        have h5 := h3.keep0 hF5
        have hw15 := hF5.heap hw3 (fun e => e)
        have ho5 := ho3.keep hF5
        have hul3 := own_lt hou3
        have z1 := hf1.size; have z2 := hF2.size; have z3 := hF3.size; have z5 := hF05.size
        simp only [RS0, RS1, RS2, RS3, RS4, RS5, bne_dec]
        cases hp : decide (pe = 0) with
        | false =>
          rw [hp, cond_false] at hfetch
          simp only [RS0, RS1, RS2, RS3, RS4, RS5]
          refine RunS_ok (bld24z _) ?_
          exact bad h5 (fun y e => .inl e) hw15 hnx (SY_of hF05) _ hfetch
        | true =>
          rw [hp, cond_true] at hfetch
          simp only [RS0, RS1, RS2, RS3, RS4, RS5]
          refine (ptake_spec h5 pick).mono ?_
          rintro _ w6 ⟨F6, h6, hF6, hcase⟩
          have hw16 := hF6.heap hw15 hnx
          have hF06 := SY_trans (SY_of hF05) hF6
          have z6 := hF6.size
          rcases hcase with ⟨q1, rfl⟩ | ⟨q1, rfl, q2⟩
          · rw [decide_eq_false q1, cond_false] at hfetch
            simp only [RS0, RS1, RS2, RS3, RS4, RS5, bne_dec, decide_eq_false q1]
            refine RunS_ok (bld24z _) ?_
            exact bad h6 (fun y e => .inl e) hw16 hnx hF06 _ hfetch
          · rw [q1, decide_eq_true rfl, cond_true] at hfetch
            have hnx4 : ¬ SY Xl Xp db g m x4 := fun e => by have := hlt _ e; omega
            have hw46 := hF6.heap hw5 hnx4
            simp only [RS0, RS1, RS2, RS3, RS4, RS5, bne_dec, decide_true, cellsV_blk hw46 (show (pcs pg (Value.slice a3 j3 c3)).size = 6 from rfl)]
            refine RunS_ok (bldFr1 _ _ _ _ _ _) ?_
            try simp only [RS0, RS1, RS2, RS3, RS4, RS5]
            have hdis : ∀ k, (Value.slice a3 j3 c3).ownBlock = some k → ¬ SY Xl Xp db g m k := fun k hk e => by
              have := hlt _ e
              have := (hul3 k hk).1
              have := hF2.size
              have : w1.drew.heap.size = w1.heap.size := rfl
              omega
            refine St_frame h6.hP q2 (⟨pg, n, false⟩, .slice a3 j3 c3) rfl ?_
            intro w7 hw7 hs7 hf7
            have hfb : fb ≠ x1 := fun e => hnx (by rw [← e]; exact .inr (.inl h6.hP.xs.2.1))
            have ho6 : w6.ownsRow w.heap.size 9 1 (.slice a3 j3 c3) pg.items.length (pg.items.map stv) := by
              obtain ⟨v5, e5, ho5'⟩ := ho5.ex
              rw [← pcs_inj e5] at ho5'
              exact own_base (own_keep ho5' hF6 (fun k _ _ hk => hdis k hk)) z2
            have ho7 : w7.ownsRow w.heap.size 9 1 (.slice a3 j3 c3) pg.items.length (pg.items.map stv) := own_keep ho6 hf7 (fun k _ _ hk e => hdis k hk (by rw [e]; exact .inr (.inl h6.hP.xs.2.1)))
            have hheld : HeldP w7 (fun y => Q y ∨ (Value.slice a3 j3 c3).ownBlock = some y) (.slice a3 j3 c3) pg := HeldP.of_own (b := w.heap.size) ⟨⟨_, rfl, ho7⟩, ho3.small, ho3.ins⟩ (fun y hy => .inr hy)
            have h7 := h6.lay (x := (⟨pg, n, false⟩, .slice a3 j3 c3)) hf7 (fun y e => .inl e) hw7 hheld (fun y e => .inl e) (fun y e => by
              rcases e with e | e
              · exact .inl e
              · exact .inr ⟨hdis y e, (own_lt ho7 y e).2⟩) (.inr ⟨hrange.1, by rw [(take_len s pick).1]; exact hrange.2⟩)
            refine good h7 (fun y e => ?_) (hf7.heap hw16 (fun e => hfb e.symm)) (fun e => ?_) (hF06.trans hf7 (fun _ _ e => e) (by rintro y _ rfl; exact .inr (.inl h6.hP.xs.2.1))) (i := (s.take pick).2.1) (x := (⟨pg, n, false⟩, .slice a3 j3 c3)) (by rw [List.getElem?_set, if_pos rfl, if_pos q2]) hfetch
            · rcases e with e | e | e
              · exact .inl e
              · exact .inl (h6.hP.xs.2.2.2 y e)
              · exact .inr (own_lt ho7 y e).1
            · rcases e with e | (e | e | e) | e
              · exact hnx (.inl e)
              · exact hnx (.inr (.inl e))
              · exact hnx (.inr (.inl (h6.hP.xs.2.2.2 _ e)))
              · have := (hul3 _ e).1
                have : w1.drew.heap.size = w1.heap.size := rfl
                omega
              · exact hnx (.inr (.inr e))
set_option maxHeartbeats 4000000 in
theorem pset_spec (h : SI w Xl Xp Q pb lb db g m fb ob F s) {cs : Array Value} {b : Pg} (hb : ∀ w', Fm (SY Xl Xp db g m) w w' → PgAs w' cs b) (n pick : Int) : Cl Tryz.prog 32 [pv pb, iv n, .agg cs, iv pick] w fun v w' => v = iv (s.set n b pick).2 ∧
    (∃ Xp' Q' F', SI w' Xl Xp' Q' pb lb db g m fb ob F' (s.set n b pick).1 ∧ ∀ y, Xp' y → Xp y ∨ w.heap.size ≤ y) ∧ Fm (SY Xl Xp db g m) w w' := by
  have hfl := h.flen
  have hlt := h.lt
  obtain ⟨a0, j0, c0, hcs⟩ := (hb w (Fm.refl _ _)).sl
  subst hcs
  have hset : s.set n b pick = bif decide (s.p.known n = 0) then (bif decide ((pEnc b).2 = 0) then (bif decide (b.lsn < 1) then (s, 1) else (match s.p.hold n with
      | some i => (s.own i n b, 0)
      | none => bif decide ((s.take pick).2.2 = 0) then ((s.take pick).1.own (s.take pick).2.1 n b, 0) else ((s.take pick).1, (s.take pick).2.2))) else (s, (pEnc b).2)) else (s, s.p.known n) := rfl
  refine c32 ?_; unfold T32
  refine New_any ?_
  intro x1 w1 hx1 hs1 hw1 hf1
  have h1 := h.keep0 hf1
  have hnx : ¬ SY Xl Xp db g m x1 := fun e => by have := hlt _ e; omega
  have same : ∀ {w2 : World} {s' : PS} {F' : List PV} {e : Int}, SI w2 Xl Xp Q pb lb db g m fb ob F' s' → Fm (SY Xl Xp db g m) w w2 → s.set n b pick = (s', e) → iv e = iv (s.set n b pick).2 ∧ (∃ Xp' Q' F', SI w2 Xl Xp' Q' pb lb db g m fb ob F' (s.set n b pick).1 ∧ ∀ y, Xp' y → Xp y ∨ w.heap.size ≤ y) ∧ Fm (SY Xl Xp db g m) w w2 := by
    intro w2 s' F' e h2 hF he
    rw [he]
    exact ⟨rfl, ⟨Xp, Q, F', h2, fun y e => .inl e⟩, hF⟩
  refine (pknown_spec h1.hP n).mono ?_
  rintro _ w1 ⟨rfl, rfl⟩
  simp only [RS0, RS1, RS2, RS3, RS4, RS5, bne_dec]
  cases hk : decide (s.p.known n = 0) with
  | false =>
    rw [hk, cond_false] at hset
    simp only [RS0, RS1, RS2, RS3, RS4, RS5]
    exact same h1 (SY_of hf1) hset
  | true =>
  rw [hk, cond_true] at hset
  rw [decide_eq_true_eq] at hk
  have hrange := known_range hk
  have hpg := h.wf.pg
  have hb1 := hb w1 (SY_of hf1)
  simp only [RS0, RS1, RS2, RS3, RS4, RS5, cellsV_blk hw1 (show (Value.cells (Value.agg (pcs b (Value.slice a0 j0 c0)))).size = 6 from rfl)]
  refine (encode_spec hb1).mono ?_
  rintro _ w2 ⟨rfl, hf2⟩
  rw [encR_eq]
  have h2 := h1.keep0 hf2
  have hF2 := Fmf hf1 hf2
  have hw2 := hf2.heap hw1 (fun e => e)
  have c0' : w2.cell? ⟨x1, 0, none⟩ = some (iv b.lsn) := by rw [cell_at hw2]; rfl
  simp only [RS0, RS1, RS2, RS3, RS4, RS5, bne_dec]
  cases he : decide ((pEnc b).2 = 0) with
  | false =>
    rw [he, cond_false] at hset
    simp only [RS0, RS1, RS2, RS3, RS4, RS5]
    exact same h2 (SY_of hF2) hset
  | true =>
  rw [he, cond_true] at hset
  simp only [RS0, RS1, RS2, RS3, RS4, RS5, c0']
  cases hl : decide (b.lsn < 1) with
  | true =>
    rw [hl, cond_true] at hset
    simp only [RS0, RS1, RS2, RS3, RS4, RS5]
    exact same h2 (SY_of hF2) hset
  | false =>
  rw [hl, cond_false] at hset
  simp only [RS0, RS1, RS2, RS3, RS4, RS5]
  refine (pholds_spec h2.hP hfl.2 n).mono ?_
  rintro _ w2 ⟨rfl, rfl⟩
  refine Jn_at (fun vs w' => ∃ (i : Nat) (s1 : PS) (F1 : List PV), vs = [.pointer (some ⟨fb, i * 8, none⟩)] ∧ i < F1.length ∧ SI w' Xl Xp Q pb lb db g m fb ob F1 s1 ∧ s1.p.pages = s.p.pages ∧ Fm (SY Xl Xp db g m) w w' ∧ w'.heap[x1]? = some (.cells (pcs b (.slice a0 j0 c0)) 61) ∧ s.set n b pick = (s1.own i n b, 0)) ?_ ?_
  · rintro _ w3 ⟨i, s1, F1, rfl, hi, h3, hpgs, hF3, hw3, he3⟩ _
    refine ⟨_, rfl, ?_⟩
    rw [he3]
    clear hset same
    have hb3 := hb w3 hF3
    simp only [RS0, RS1, RS2, RS3, RS4, RS5, cellsV_blk hw3 (show (pcs b (Value.slice a0 j0 c0)).size = 6 from rfl)]
    refine RunS_ok (bldFr2 _ _ _ _ _ _) ?_
    try simp only [RS0, RS1, RS2, RS3, RS4, RS5]
    refine St_frame h3.hP hi (⟨b, n, true⟩, .slice a0 j0 c0) rfl ?_
    intro w4 hw4 hs4 hf4
    have hfbx : fb ≠ x1 := fun e => hnx (by rw [← e]; exact .inr (.inl h3.hP.xs.2.1))
    have hw14 := hf4.heap hw3 (fun e => hfbx e.symm)
    have c5 : w4.cell? ⟨x1, 5, none⟩ = some (.slice a0 j0 c0) := by rw [cell_at hw14]; rfl
    have hfbY : ∀ y, y = fb → SY Xl Xp db g m y := by rintro y rfl; exact .inr (.inl h3.hP.xs.2.1)
    have hF4 : Fm (SY Xl Xp db g m) w w4 := hF3.trans hf4 (fun _ _ e => e) (fun y _ e => hfbY y e)
    have hb4 := hb w4 hF4
    obtain ⟨v0, hv0, v1, v2⟩ := hb4.ex
    obtain rfl := pcs_inj hv0
    simp only [RS0, RS1, RS2, RS3, RS4, RS5, c5]
    refine (clone_spec v2 hb4.ins.2.2.2.2.2).mono ?_
    rintro r w5 ⟨ho5, hf5⟩
    have hr1 := own_one ho5
    have hrl := own_lt ho5
    try simp only [RS0, RS1, RS2, RS3, RS4, RS5]
    refine St_blk (hf5.heap hw4 (fun e => e)) (j := i * 8 + 5) (by rw [List.size_toArray, flat_len frC_len, List.length_set]; omega) hr1 ?_
    intro w6 hw6 hs6 hf6
    have hx' : (F1.set i ((⟨b, n, true⟩, .slice a0 j0 c0) : PV))[i]? = some ((⟨b, n, true⟩, .slice a0 j0 c0) : PV) := by rw [List.getElem?_set, if_pos rfl, if_pos hi]
    have hset1 := flat_set1 frC_len (y := ((⟨b, n, true⟩, r) : PV)) (u := r) hx' (j := 5) (by omega) rfl
    rw [List.setIfInBounds_toArray, ← hset1, List.set_set] at hw6
    have hf36 : Fm (fun y => y = fb) w3 w6 := (hf4.trans hf5 (fun _ _ e => e) (fun _ _ e => e.elim)).trans hf6 (fun _ _ e => e) (fun _ _ e => e)
    have hF6 : Fm (SY Xl Xp db g m) w w6 := hF3.trans hf36 (fun _ _ e => e) (fun y _ e => hfbY y e)
    have z3 := hF3.size; have z4 := hf4.size; have z5 := hf5.size
    have hlt3 := h3.lt
    have hfb3 := hlt3 fb (hfbY fb rfl)
    have hrn : ∀ k, r.ownBlock = some k → ¬ SY Xl Xp db g m k := fun k hk e => by
      have := hlt3 k e
      have := (hrl k hk).1
      omega
    have ho6 : w6.ownsRow w4.heap.size 9 1 r b.items.length (b.items.map stv) := own_keep ho5 hf6 (fun k hk _ _ e => by omega)
    have hheld : HeldP w6 (fun y => Q y ∨ r.ownBlock = some y) r b := HeldP.of_own (b := w4.heap.size) ⟨⟨_, rfl, ho6⟩, hb4.small, hb4.ins⟩ (fun y hy => .inr hy)
    have h6 := h3.lay (x := (⟨b, n, true⟩, r)) hf36 (fun y e => .inl e) hw6 hheld (fun y e => .inl e) (fun y e => by
      rcases e with e | e
      · exact .inl e
      · exact .inr ⟨hrn y e, (own_lt ho6 y e).2⟩) (.inr ⟨hrange.1, by rw [hpgs]; exact hrange.2⟩)
    have hXp : ∀ y, (Xp y ∨ (Q y ∨ r.ownBlock = some y)) → Xp y ∨ w.heap.size ≤ y := fun y e => by
      rcases e with e | e | e
      · exact .inl e
      · exact .inl (h3.hP.xs.2.2.2 y e)
      · have := (hrl y e).1
        exact .inr (by omega)
    have hown : s1.own i n b = ⟨{ s1.p.lay i ⟨b, n, true⟩ with owed := bif (getD s1.p.owed n).isNone then setD s1.p.owed n b.lsn else s1.p.owed }, s1.l, s1.d⟩ := rfl
    have hw16 := hf6.heap (hf5.heap hw14 (fun e => e)) (fun e => hfbx e.symm)
    have c06 : w6.cell? ⟨x1, 0, none⟩ = some (iv b.lsn) := by rw [cell_at hw16]; rfl
    refine Jn_at (fun vs w' => vs = [] ∧ SI w' Xl (fun y => Xp y ∨ (Q y ∨ r.ownBlock = some y)) (fun y => Q y ∨ r.ownBlock = some y) pb lb db g m fb ob (F1.set i (⟨b, n, true⟩, r)) (s1.own i n b) ∧ Fm (SY Xl Xp db g m) w w') ?_ ?_
    · rintro _ w7 ⟨rfl, h7, hF7⟩ _
      exact ⟨rfl, (by trivial), ⟨_, _, _, h7, hXp⟩, hF7⟩
    intro jj hjj
    refine (powes_spec h6.hP n).mono ?_
    rintro _ w6 ⟨rfl, rfl⟩
    have hpo : (s1.lay i ⟨b, n, true⟩).p.owed = s1.p.owed := rfl
    rw [hpo]
    cases hq : (getD s1.p.owed n).isNone with
    | false =>
      simp only [RS0, RS1, RS2, RS3, RS4, RS5, Bool.not_false, Bool.not_true]
      refine hjj _ _ ⟨rfl, ?_, hF6⟩
      rw [hown, hq, cond_false]
      exact h6
    | true =>
      have hfd := Fm.drew (fun _ => False) w6
      have h7 := h6.keep0 hfd
      have hF7 := SY_trans hF6 (SY_of hfd)
      simp only [RS0, RS1, RS2, RS3, RS4, RS5, Bool.not_false, Bool.not_true, h6.hP.c5, c06, true_and]
      obtain ⟨w8, hr8, hm8, hf8, hs8⟩ := update_run K146 h7.hP.mp n b.lsn
      refine RunU_ok hr8 ?_
      have hobX := h7.hP.xs.2.2.1
      have hne : ∀ y, (Xp y ∨ (Q y ∨ r.ownBlock = some y)) → y ≠ ob → ¬ y = ob := fun y _ e => e
      refine hjj _ _ ⟨rfl, ?_, hF7.trans hf8 (fun _ _ e => e) (by rintro y _ rfl; exact .inr (.inl h3.hP.xs.2.2.1))⟩
      rw [hown, hq, cond_true]
      refine ⟨h7.hL.keep hf8 (by rintro y hy rfl; exact h7.lp _ hy hobX), h7.hD.keep hf8 (by rintro rfl; exact h7.pd.1 hobX) (by rintro rfl; exact h7.pd.2.1 hobX) (by rintro rfl; exact h7.pd.2.2 hobX), ⟨hf8.heap h7.hP.st h7.hP.po, hf8.heap h7.hP.fr h7.hP.fo, hm8, h7.hP.fs, fun x hx => (h7.hP.it x hx).keep hf8 (by rintro y hy rfl; exact h7.hP.qs.2.2 hy), h7.hP.xs, h7.hP.qs, fun y hy => Nat.lt_of_lt_of_le (h7.hP.lt y hy) hf8.size⟩, h7.wf.of_fr rfl rfl rfl, h7.lp, h7.ld, h7.pd⟩
  intro jj hjj
  have hF2' : Fm (SY Xl Xp db g m) w w2 := SY_of hF2
  cases hh : s.p.hold n with
  | some i =>
    rw [hh] at hset
    obtain ⟨f, hf, _⟩ := Pl.hold_some hh
    have hil := (List.getElem?_eq_some_iff.1 hf).1
    rw [← h.hP.len] at hil
    simp only [holdV]
    simp only [RS0, RS1, RS2, RS3, RS4, RS5]
    exact hjj _ _ ⟨i, s, F, rfl, hil, h2, rfl, hF2', hw2, hset⟩
  | none =>
    rw [hh] at hset
    simp only at hset
    simp only [holdV]
    simp only [RS0, RS1, RS2, RS3, RS4, RS5]
    refine (ptake_spec h2 pick).mono ?_
    rintro _ w3 ⟨F3, h3, hF3, hcase⟩
    have hF3' := SY_trans hF2' hF3
    rcases hcase with ⟨q1, rfl⟩ | ⟨q1, rfl, q2⟩
    · rw [decide_eq_false q1, cond_false] at hset
      simp only [RS0, RS1, RS2, RS3, RS4, RS5, bne_dec, decide_eq_false q1]
      exact same h3 hF3' hset
    · rw [q1, decide_eq_true rfl, cond_true] at hset
      simp only [RS0, RS1, RS2, RS3, RS4, RS5, bne_dec, decide_true]
      exact hjj _ _ ⟨_, _, F3, rfl, q2, h3, (take_len s pick).1, hF3', hF3.heap hw2 hnx, hset⟩
end
end Go.Proofs.YthbngnlmgplijaaGreatDoor

namespace Go.Proofs.YthbngnlmgplijaaGreatDoor
open Go.Al Go.Proofs
set_option linter.unusedVariables false
set_option linter.unusedSimpArgs false
set_option linter.unusedSectionVars false
set_option maxRecDepth 100000

def pfz : Pf := ⟨pg0, 0, false⟩
theorem frz_get : ∀ k, k < 8 → (frC (pfz, nlv))[k]? = some ((frC (pfz, nlv)).toArray[k]!) := by
  intro k hk
  match k, hk with
  | 0, _ => rfl
  | 1, _ => rfl
  | 2, _ => rfl
  | 3, _ => rfl
  | 4, _ => rfl
  | 5, _ => rfl
  | 6, _ => rfl
  | 7, _ => rfl
theorem made_frames (n : Nat) : madeCells (frC (pfz, nlv)).toArray (n * 8) = ((List.replicate n (pfz, nlv)).flatMap frC).toArray := by
  apply Array.ext'
  apply List.ext_getElem?
  intro j
  have hsz : (frC (pfz, nlv)).toArray.size = 8 := rfl
  simp only [madeCells, Array.toList_map, Array.toList_range, List.getElem?_map, hsz]
  by_cases hj : j < n * 8
  · rw [List.getElem?_range hj]
    have h1 : (List.replicate n (pfz, nlv))[j / 8]? = some (pfz, nlv) := by rw [List.getElem?_replicate, if_pos (by omega)]
    have h2 := flat_get frC_len h1 (j := j % 8) (by omega)
    have h3 : j / 8 * 8 + j % 8 = j := by omega
    rw [h3] at h2
    rw [h2, frz_get _ (by omega)]
    rfl
  · have hl := flat_len frC_len (List.replicate n (pfz, nlv))
    rw [List.length_replicate] at hl
    rw [List.getElem?_eq_none (l := List.range (n * 8)) (by rw [List.length_range]; omega), List.getElem?_eq_none (by rw [hl]; omega)]
    rfl
theorem made143 (w : World) (n : Nat) (h : n ≤ 100000) : (Instr.makeSlice 145 (iv n) (iv n)).run Tryz.prog w = .ok (.slice (some ⟨w.heap.size, 0, none⟩) n n) (w.alloc (.cells ((List.replicate n (pfz, nlv)).flatMap frC).toArray 143)) := by
  obtain ⟨i, h1, h2, h3, h4⟩ := info_of (P := Tryz.prog) (e := 143) (z := .agg (frC (pfz, nlv)).toArray) (n := 8) (b := 88) (by kernel_rfl)
  have hr := run_make (P := Tryz.prog) w 145 143 i _ Tryz.underlying145 h1 h2 .i64 .i64 n n (by omega) (Int.le_refl _) (by rw [h4]; omega) (by omega)
  rw [hr]
  simp only [Int.toNat_natCast, h3]
  rw [← made_frames]
  rfl
theorem rep_set {α : Type} (a b : α) {i n : Nat} (h : i < n) : (List.replicate i a ++ List.replicate (n - i) b).set i a = List.replicate (i + 1) a ++ List.replicate (n - (i + 1)) b := by
  rw [List.set_append_right _ _ (by rw [List.length_replicate]; exact Nat.le_refl _), List.length_replicate, Nat.sub_self, show n - i = (n - (i + 1)) + 1 from by omega, List.replicate_succ, List.set_cons_zero, List.replicate_succ', List.append_assoc]
  rfl
theorem rep_get {α : Type} (a b : α) {i n : Nat} (h : i < n) : (List.replicate i a ++ List.replicate (n - i) b)[i]? = some b := by
  rw [List.getElem?_append_right (by rw [List.length_replicate]; exact Nat.le_refl _), List.length_replicate, Nat.sub_self, List.getElem?_replicate, if_pos (by omega)]
theorem bld148 (db lb fb ob n : Nat) (a b : Int) (w : World) : (Instr.build 148 #[(0, pv db), (1, pv lb), (2, iv a), (3, iv b), (4, .slice (some ⟨fb, 0, none⟩) n n), (5, .map (some ob))]).run Tryz.prog w = .ok (.agg #[pv db, pv lb, iv a, iv b, .slice (some ⟨fb, 0, none⟩) n n, .map (some ob)]) w := by kernel_rfl
def newBad (d : Dk) (frm pages frames : Int) : Bool := decide (frames < 1) || (decide (1024 < frames) || (decide (pages < 1) || (decide (8192 < pages) || (decide (frm < 0) || decide ((d.cur.length : Int) - 8 * pages < frm)))))
def newP (frm pages frames : Int) : Pl := ⟨frm.toNat, pages.toNat, List.replicate frames.toNat pf0, []⟩
set_option maxHeartbeats 2000000 in
theorem pnew_spec {w : World} {b g m : Nat} {d : Dk} (h : DAt w b g m d) (lb : Nat) (frm pages frames : Int) (hi : In frm) : Cl Tryz.prog 36 [pv b, pv lb, iv frm, iv pages, iv frames] w fun v w' => Fm (fun _ => False) w w' ∧
    ((newBad d frm pages frames = true ∧ v = .tuple #[.pointer none, iv 1]) ∨ (newBad d frm pages frames = false ∧ ∃ pb fb ob X F, v = .tuple #[pv pb, iv 0] ∧ PIn w' X (fun _ => False) pb lb b fb ob F (newP frm pages frames) ∧ (newP frm pages frames).Wf ∧ ∀ y, X y → w.heap.size ≤ y)) := by
  have hn := h.wf.n1
  unfold newBad
  refine c36 ?_; unfold T36
  cases h1 : decide (frames < 1) with
  | true =>
    simp only [RS0, RS1, RS2, RS3, RS4, RS5, h1, Bool.true_or]
    exact ⟨Fm.refl _ _, .inl ⟨(by trivial), (by trivial)⟩⟩
  | false =>
  cases h2 : decide (1024 < frames) with
  | true =>
    simp only [RS0, RS1, RS2, RS3, RS4, RS5, h1, h2, Bool.true_or, Bool.false_or]
    exact ⟨Fm.refl _ _, .inl ⟨(by trivial), (by trivial)⟩⟩
  | false =>
  cases h3 : decide (pages < 1) with
  | true =>
    simp only [RS0, RS1, RS2, RS3, RS4, RS5, h1, h2, h3, Bool.true_or, Bool.false_or]
    exact ⟨Fm.refl _ _, .inl ⟨(by trivial), (by trivial)⟩⟩
  | false =>
  cases h4 : decide (8192 < pages) with
  | true =>
    simp only [RS0, RS1, RS2, RS3, RS4, RS5, h1, h2, h3, h4, Bool.true_or, Bool.false_or]
    exact ⟨Fm.refl _ _, .inl ⟨(by trivial), (by trivial)⟩⟩
  | false =>
  cases h5 : decide (frm < 0) with
  | true =>
    simp only [RS0, RS1, RS2, RS3, RS4, RS5, h1, h2, h3, h4, h5, Bool.true_or, Bool.false_or]
    exact ⟨Fm.refl _ _, .inl ⟨(by trivial), (by trivial)⟩⟩
  | false =>
  simp only [RS0, RS1, RS2, RS3, RS4, RS5, h1, h2, h3, h4, h5, Bool.false_or]
  rw [decide_eq_false_iff_not] at h1 h2 h3 h4 h5
  refine (dsize_spec h).mono ?_
  rintro _ w ⟨rfl, rfl⟩
  have e1 : IntKind.i64.wrap (8 * pages) = 8 * pages := by rw [wrap_id]; omega
  have e2 : IntKind.i64.wrap ((d.cur.length : Int) - 8 * pages) = (d.cur.length : Int) - 8 * pages := by rw [wrap_id]; omega
  simp only [RS0, RS1, RS2, RS3, RS4, RS5, e1, e2]
  cases h6 : decide ((d.cur.length : Int) - 8 * pages < frm) with
  | true =>
    simp only [RS0, RS1, RS2, RS3, RS4, RS5, h6]
    exact ⟨Fm.refl _ _, .inl ⟨(by trivial), (by trivial)⟩⟩
  | false =>
  simp only [RS0, RS1, RS2, RS3, RS4, RS5, h6]
  rw [decide_eq_false_iff_not] at h6
  obtain ⟨n, rfl⟩ := Int.eq_ofNat_of_zero_le (show 0 ≤ frames by omega)
  obtain ⟨pg, rfl⟩ := Int.eq_ofNat_of_zero_le (show 0 ≤ pages by omega)
  obtain ⟨fr, rfl⟩ := Int.eq_ofNat_of_zero_le (show 0 ≤ frm by omega)
  have hwf : (newP (fr : Int) (pg : Int) (n : Int)).Wf := ⟨by show 1 ≤ (List.replicate (Int.toNat (n : Int)) pf0).length ∧ (List.replicate (Int.toNat (n : Int)) pf0).length ≤ 1024; rw [List.length_replicate]; omega, by show 1 ≤ Int.toNat (pg : Int) ∧ Int.toNat (fr : Int) + 8 * Int.toNat (pg : Int) ≤ 65536; omega, fun f hf => .inl (by rw [List.eq_of_mem_replicate hf]; rfl)⟩
  refine RunS_ok (made143 _ n (by omega)) ?_
  have hf1 := Fm.alloc (fun _ => False) w (.cells ((List.replicate n (pfz, nlv)).flatMap frC).toArray 143)
  have hn1 := alloc_new w (.cells ((List.replicate n (pfz, nlv)).flatMap frC).toArray 143)
  have hs1 := alloc_size w (.cells ((List.replicate n (pfz, nlv)).flatMap frC).toArray 143)
  generalize w.alloc (.cells ((List.replicate n (pfz, nlv)).flatMap frC).toArray 143) = w1 at hf1 hn1 hs1
  refine RunS_ok (makeMap_run _ _) ?_
  have hM := MapAt.empty w1 iv iv
  have hf2 := Fm.alloc (fun _ => False) w1 (.map #[] 0)
  have hs2 := alloc_size w1 (.map #[] 0)
  generalize w1.alloc (.map #[] 0) = w2 at hM hf2 hs2
  refine RunS_ok (bld148 b lb w.heap.size w1.heap.size n _ _ _) ?_
  refine New_any ?_
  intro pb w3 hpb hs3 hw3 hf3
  have hM3 := hM.keep hf3 (fun e => e)
  have hfr3 := hf3.heap (hf2.heap hn1 (fun e => e)) (fun e => e)
  have hF3 := Fmf hf1 (Fmf hf2 hf3)
  have c4 : w3.cell? ⟨pb, 4, none⟩ = some (.slice (some ⟨w.heap.size, 0, none⟩) n n) := by rw [cell_at hw3]; rfl
  simp only [RS0, RS1, RS2, RS3, RS4, RS5, c4]
  refine ⟨fun vs w' => ∃ i : Nat, vs = [iv (i : Int)] ∧ i ≤ n ∧ w'.heap[w.heap.size]? = some (.cells ((List.replicate i (pf0, nlv) ++ List.replicate (n - i) (pfz, nlv)).flatMap frC).toArray 143) ∧ Fm (fun y => y = w.heap.size) w3 w', fun vs _ => (n - nth vs 0).toNat, ⟨0, rfl, by omega, by rw [Nat.sub_zero]; exact hfr3, Fm.refl _ _⟩, ?_⟩
  rintro _ w4 ivv ⟨i, hvs, hi, hfr4, hf4⟩
  cases hvs
  have c4' : w4.cell? ⟨pb, 4, none⟩ = some (.slice (some ⟨w.heap.size, 0, none⟩) n n) := hf4.cell' c4 (show ¬ pb = _ by omega)
  by_cases hl : i < n
  · have d1 : decide ((i : Int) < (n : Int)) = true := by rw [decide_eq_true_eq]; omega
    have ei : IntKind.i64.wrap ((i : Int) + 1) = ((i + 1 : Nat) : Int) := by rw [wrap_id] <;> omega
    simp only [RS0, RS1, RS2, RS3, RS4, RS5, d1, c4', PIn.ix i hl w.heap.size]
    refine St_blk hfr4 (j := i * 8 + 6) (by rw [List.size_toArray, flat_len frC_len, List.length_append, List.length_replicate, List.length_replicate]; omega) rfl ?_
    intro w5 hw5 hs5 hf5
    have hset := flat_set1 frC_len (y := (pf0, nlv)) (u := iv (-1)) (rep_get (pf0, nlv) (pfz, nlv) hl) (j := 6) (by omega) rfl
    rw [List.setIfInBounds_toArray, ← hset, rep_set _ _ hl] at hw5
    simp only [RS0, RS1, RS2, RS3, RS4, RS5, ei]
    exact ⟨⟨i + 1, rfl, by omega, hw5, hf4.trans hf5 (fun _ _ e => e) (fun _ _ e => e)⟩, by simp only [nth_0]; omega⟩
  · have hie : i = n := by omega
    subst hie
    have d1 : decide ((i : Int) < (i : Int)) = false := by simp
    simp only [RS0, RS1, RS2, RS3, RS4, RS5, d1]
    rw [Nat.sub_self, List.replicate_zero, List.append_nil] at hfr4
    refine ⟨Fm.own hF3 hf4 (by rintro y rfl; exact Nat.le_refl _), .inr ⟨(by trivial), pb, w.heap.size, w1.heap.size, fun y => y = pb ∨ y = w.heap.size ∨ y = w1.heap.size, List.replicate i (pf0, nlv), (by trivial), ⟨?_, hfr4, hM3.keep hf4 (show ¬ w1.heap.size = _ by omega), ?_, ?_, ⟨.inl rfl, .inr (.inl rfl), .inr (.inr rfl), fun y e => e.elim⟩, ⟨fun e => e, fun e => e, fun e => e⟩, ?_⟩, hwf, ?_⟩⟩
    · rw [List.length_replicate]
      exact hf4.heap hw3 (show ¬ pb = _ by omega)
    · show (List.replicate i (pf0, nlv)).map (·.1) = List.replicate (Int.toNat (i : Int)) pf0
      rw [List.map_replicate, Int.toNat_natCast]
    · intro x hx
      rw [List.eq_of_mem_replicate hx]
      exact HeldP.zero _ _
    · have := hf4.size
      rintro y (rfl | rfl | rfl) <;> omega
    · rintro y (rfl | rfl | rfl) <;> omega
end Go.Proofs.YthbngnlmgplijaaGreatDoor

namespace Go.Proofs.YthbngnlmgplijaaGreatDoor
open Go.Al Go.Proofs
set_option linter.unusedVariables false
set_option linter.unusedSimpArgs false
set_option linter.unusedSectionVars false
set_option maxRecDepth 100000

structure Sys (w0 w : World) (Y : Nat → Prop) (pb lb db : Nat) (s : PS) : Prop where
  ex : ∃ Xl Xp Q g m fb ob F, SI w Xl Xp Q pb lb db g m fb ob F s ∧ ∀ y, SY Xl Xp db g m y → Y y
  ge : ∀ y, Y y → w0.heap.size ≤ y ∧ y < w.heap.size
  fm : Fm (fun _ => False) w0 w
def Gr (w : World) (Y Y' : Nat → Prop) : Prop := ∀ y, Y' y → Y y ∨ w.heap.size ≤ y
section
variable {w0 w w' : World} {Y S : Nat → Prop} {pb lb db : Nat} {s : PS}
theorem Sys.keep (h : Sys w0 w Y pb lb db s) (hf : Fm S w w') (hS : ∀ y, Y y → ¬ S y) (h0 : ∀ y, S y → w0.heap.size ≤ y) : Sys w0 w' Y pb lb db s := by
  obtain ⟨Xl, Xp, Q, g, m, fb, ob, F, h1, h2⟩ := h.ex
  exact ⟨⟨Xl, Xp, Q, g, m, fb, ob, F, h1.keep hf (fun y hy => hS y (h2 y hy)), h2⟩, fun y hy => ⟨(h.ge y hy).1, Nat.lt_of_lt_of_le (h.ge y hy).2 hf.size⟩, Fm.own h.fm hf h0⟩
theorem Sys.keep0 (h : Sys w0 w Y pb lb db s) (hf : Fm (fun _ => False) w w') : Sys w0 w' Y pb lb db s := h.keep hf (fun _ _ e => e) (fun _ e => e.elim)
theorem Sys.step (h : Sys w0 w Y pb lb db s) {s' : PS} {Xl Xp Q : Nat → Prop} {g m fb ob : Nat} {F F' : List PV} {Xl' Xp' Q' : Nat → Prop} (h1 : SI w Xl Xp Q pb lb db g m fb ob F s) (h2 : ∀ y, SY Xl Xp db g m y → Y y) (h3 : SI w' Xl' Xp' Q' pb lb db g m fb ob F' s')
    (hl : ∀ y, Xl' y → Xl y ∨ w.heap.size ≤ y) (hp : ∀ y, Xp' y → Xp y ∨ w.heap.size ≤ y) (hf : Fm (SY Xl Xp db g m) w w') : (∃ Y', Sys w0 w' Y' pb lb db s' ∧ Gr w Y Y') ∧ Fm Y w w' := by
  have hF : Fm Y w w' := hf.mono (fun y _ e => h2 y e)
  have hz := hf.size
  have hz0 := h.fm.size
  have hG : ∀ y, SY Xl' Xp' db g m y → Y y ∨ w.heap.size ≤ y := by
    rintro y (hy | hy | hy)
    · rcases hl y hy with e | e
      · exact .inl (h2 y (.inl e))
      · exact .inr e
    · rcases hp y hy with e | e
      · exact .inl (h2 y (.inr (.inl e)))
      · exact .inr e
    · exact .inl (h2 y (.inr (.inr hy)))
  refine ⟨⟨SY Xl' Xp' db g m, ⟨⟨Xl', Xp', Q', g, m, fb, ob, F', h3, fun _ e => e⟩, fun y hy => ⟨?_, h3.lt y hy⟩, Fm.own h.fm hF (fun y hy => (h.ge y hy).1)⟩, hG⟩, hF⟩
  rcases hG y hy with e | e
  · exact (h.ge y e).1
  · omega
theorem Sys.fetch (h : Sys w0 w Y pb lb db s) (n pick : Int) : Cl Tryz.prog 33 [pv pb, iv n, iv pick] w fun v w' => ∃ u, v = .tuple #[.agg (pcs (s.fetch n pick).2.1 u), iv (s.fetch n pick).2.2] ∧ PgOw w' w.heap.size (pcs (s.fetch n pick).2.1 u) (s.fetch n pick).2.1 ∧
    (∃ Y', Sys w0 w' Y' pb lb db (s.fetch n pick).1 ∧ Gr w Y Y' ∧ ∀ k, u.ownBlock = some k → ¬ Y' k) ∧ Fm Y w w' := by
  obtain ⟨Xl, Xp, Q, g, m, fb, ob, F, h1, h2⟩ := h.ex
  refine (pfetch_spec h1 n pick).mono ?_
  rintro v w' ⟨u, rfl, ho, ⟨Xp', Q', F', h3, hp, hu⟩, hf⟩
  obtain ⟨⟨Y', hY, hG⟩, hF⟩ := h.step h1 h2 h3 (fun y e => .inl e) hp hf
  have hul : ∀ k, u.ownBlock = some k → w.heap.size ≤ k := by
    obtain ⟨u', e, hou⟩ := ho.ex
    rw [← pcs_inj e] at hou
    exact fun k hk => (own_lt hou k hk).1
  refine ⟨u, rfl, ho, ⟨SY Xl Xp' db g m, ⟨⟨Xl, Xp', Q', g, m, fb, ob, F', h3, fun _ e => e⟩, fun y hy => ⟨?_, h3.lt y hy⟩, Fm.own h.fm hF (fun y hy => (h.ge y hy).1)⟩, fun y hy => ?_, fun k hk e => ?_⟩, hF⟩
  · have hz0 := h.fm.size
    rcases hy with hy | hy | hy
    · exact (h.ge y (h2 y (.inl hy))).1
    · rcases hp y hy with e | e
      · exact (h.ge y (h2 y (.inr (.inl e)))).1
      · omega
    · exact (h.ge y (h2 y (.inr (.inr hy)))).1
  · rcases hy with hy | hy | hy
    · exact .inl (h2 y (.inl hy))
    · rcases hp y hy with e | e
      · exact .inl (h2 y (.inr (.inl e)))
      · exact .inr e
    · exact .inl (h2 y (.inr (.inr hy)))
  · have := hul k hk
    rcases e with e | e | e
    · have := h1.lt k (.inl e); omega
    · exact hu k hk e
    · have := h1.lt k (.inr (.inr e)); omega
theorem Sys.set (h : Sys w0 w Y pb lb db s) {cs : Array Value} {b : Pg} (hb : ∀ w', Fm Y w w' → PgAs w' cs b) (n pick : Int) : Cl Tryz.prog 32 [pv pb, iv n, .agg cs, iv pick] w fun v w' => v = iv (s.set n b pick).2 ∧ (∃ Y', Sys w0 w' Y' pb lb db (s.set n b pick).1 ∧ Gr w Y Y') ∧ Fm Y w w' := by
  obtain ⟨Xl, Xp, Q, g, m, fb, ob, F, h1, h2⟩ := h.ex
  refine (pset_spec h1 (fun w' hf => hb w' (hf.mono (fun y _ e => h2 y e))) n pick).mono ?_
  rintro v w' ⟨rfl, ⟨Xp', Q', F', h3, hp⟩, hf⟩
  exact ⟨rfl, h.step h1 h2 h3 (fun y e => .inl e) hp hf⟩
theorem Sys.append (h : Sys w0 w Y pb lb db s) {cs : Array Value} {r : Rc} (hr : ∀ w', Fm Y w w' → RcAs w' cs r) : Cl Tryz.prog 21 [pv lb, .agg cs] w fun v w' => v = .tuple #[iv (s.l.append r).2.1, iv (s.l.append r).2.2] ∧ (∃ Y', Sys w0 w' Y' pb lb db ⟨s.p, (s.l.append r).1, s.d⟩ ∧ Gr w Y Y') ∧ Fm Y w w' := by
  obtain ⟨Xl, Xp, Q, g, m, fb, ob, F, h1, h2⟩ := h.ex
  refine (wappend_spec h1.hL (fun w' hf => hr w' (hf.mono (fun y _ e => h2 y (.inl e))))).mono ?_
  rintro v w' ⟨rfl, Xl', hL, hl, hf⟩
  have hdl := h1.hD.lt
  have h3 : SI w' Xl' Xp Q pb lb db g m fb ob F ⟨s.p, (s.l.append r).1, s.d⟩ := by
    refine ⟨hL, h1.hD.keep hf h1.ld.1 h1.ld.2.1 h1.ld.2.2, h1.hP.keep hf (fun y hy e => h1.lp y e hy), h1.wf, fun y hy e => ?_, ⟨fun e => ?_, fun e => ?_, fun e => ?_⟩, h1.pd⟩
    · rcases hl y hy with q | q
      · exact h1.lp y q e
      · have := h1.hP.lt y e; omega
    · rcases hl _ e with q | q
      · exact h1.ld.1 q
      · omega
    · rcases hl _ e with q | q
      · exact h1.ld.2.1 q
      · omega
    · rcases hl _ e with q | q
      · exact h1.ld.2.2 q
      · omega
  exact ⟨rfl, h.step h1 h2 h3 hl (fun y e => .inl e) (hf.mono (fun y _ e => .inl e))⟩
theorem Sys.owes (h : Sys w0 w Y pb lb db s) (n : Int) : Cl Tryz.prog 43 [pv pb, iv n] w fun v w' => v = .bool (!(getD s.p.owed n).isNone) ∧ w' = w := by
  obtain ⟨Xl, Xp, Q, g, m, fb, ob, F, h1, h2⟩ := h.ex
  exact powes_spec h1.hP n
theorem Sys.flushed (h : Sys w0 w Y pb lb db s) : Cl Tryz.prog 27 [pv lb] w fun v w' => v = iv (s.l.last : Int) ∧ Fm (fun _ => False) w w' := by
  obtain ⟨Xl, Xp, Q, g, m, fb, ob, F, h1, h2⟩ := h.ex
  exact wflushed_spec h1.hL
theorem Sys.tail (h : Sys w0 w Y pb lb db s) : Cl Tryz.prog 20 [pv lb] w fun v w' => v = iv (s.l.tail : Int) ∧ Fm (fun _ => False) w w' := by
  obtain ⟨Xl, Xp, Q, g, m, fb, ob, F, h1, h2⟩ := h.ex
  exact wtail_spec h1.hL
/-- One is made. -/
theorem Sys.made {w1 w2 w3 : World} {b g m : Nat} {d : Dk} {L : Lg} {p : Pl} {X Xp : Nat → Prop} {fb ob : Nat} {F : List PV} (hd : DAt w2 b g m d) (hb : (w0.heap.size ≤ b ∧ w0.heap.size ≤ g ∧ w0.heap.size ≤ m) ∧ b < w1.heap.size ∧ g < w1.heap.size ∧ m < w1.heap.size)
    (hL : LAt w2 X lb b L) (hX : ∀ y, X y → w1.heap.size ≤ y) (hz : w0.heap.size ≤ w1.heap.size) (hf : Fm (fun _ => False) w2 w3) (hP : PIn w3 Xp (fun _ => False) pb lb b fb ob F p) (hXp : ∀ y, Xp y → w2.heap.size ≤ y) (hwf : p.Wf) (hF : Fm (fun _ => False) w0 w3) :
    ∃ Y, Sys w0 w3 Y pb lb b ⟨p, L, d⟩ := by
  have hdl := hd.lt
  have hLl := hL.lt
  have h1 : SI w3 X Xp (fun _ => False) pb lb b g m fb ob F ⟨p, L, d⟩ := ⟨hL.keep0 hf, hd.keep0 hf, hP, hwf, fun y h1 h2 => by have := hLl y h1; have := hXp y h2; omega, ⟨fun e => by have := hX _ e; omega, fun e => by have := hX _ e; omega, fun e => by have := hX _ e; omega⟩, ⟨fun e => by have := hXp _ e; omega, fun e => by have := hXp _ e; omega, fun e => by have := hXp _ e; omega⟩⟩
  refine ⟨SY X Xp b g m, ⟨X, Xp, fun _ => False, g, m, fb, ob, F, h1, fun _ e => e⟩, fun y hy => ⟨?_, h1.lt y hy⟩, hF⟩
  have z2 := hF.size
  rcases hy with hy | hy | rfl | rfl | rfl
  · have := hX y hy; omega
  · have := hXp y hy
    have hb2 := hLl _ hL.lb
    have := hX _ hL.lb
    omega
  · exact hb.1.1
  · exact hb.1.2.1
  · exact hb.1.2.2
end

/-! ### A record that only takes a place -/
def nt : Rc := ⟨0, 0, 0, 2, 1, 0, 0, 0, 0, 0, [], [], [], [], [], []⟩
theorem bldNt (w : World) : (Instr.build 28 #[(3, .int .u8 2), (4, iv 1)]).run Tryz.prog w = .ok (.agg (rcs nt nl nl nl nl nl)) w := by kernel_rfl
theorem note_spec (w : World) : Cl Tryz.prog 31 [] w fun v w' => v = .agg (rcs nt nl nl nl nl nl) ∧ Fm (fun _ => False) w w' := by
  refine c31 ?_; unfold T31
  refine New_any ?_
  intro x w1 hx hs1 hw1 hf1
  refine RunS_ok (bldNt _) ?_
  refine St_all hw1 rfl rfl (rcs_one rfl rfl rfl rfl rfl) ?_
  intro w2 hw2 hs2 hf2
  have hret : RetO (resL Tryz.prog (fun j => bif Nat.beq j 0 then pv x else undef) w2 [(ResultVar.cell 0 28)]) w2 (fun v w' => v = .agg (rcs nt nl nl nl nl nl) ∧ Fm (fun _ => False) w w') := by
    simp only [resL, resV_blk (f := fun j => bif Nat.beq j 0 then pv x else undef) (a := 0) rfl agg52 size52 hw2 rfl, RetO, RetV]
    exact ⟨(by trivial), Fm.own hf1 hf2 (by rintro y rfl; omega)⟩
  exact hret
theorem nt_bnd : Bnd nt := ⟨by intro n hn; simp [rNums, nt, prs] at hn; unfold okN; omega, by simp [nt], by simp [nt], by simp [nt], by simp [nt], by simp [nt], by simp [nt], by simp [nt], by simp [nt]⟩
theorem nt_as (w : World) : RcAs w (rcs nt nl nl nl nl nl) nt := by
  have : Rows w 0 nt nl nl nl nl nl := ⟨World.ownsRow_nil _ _ _ _, World.ownsRow_nil _ _ _ _, ⟨[], rfl, World.ownsRow_nil _ _ _ _, by simp⟩, World.ownsRow_nil _ _ _ _, World.ownsRow_nil _ _ _ _⟩
  exact this.asR nt_bnd
theorem nt_lsns : ∀ m ∈ nt.imgs, m.2.lsn ≤ 9223372036854775807 := by intro m hm; cases hm

/-! ### A new one holds nothing -/
theorem sec8_zero {d : Dk} {a : Nat} (h : ∀ j, j < 8 → d.cur[a + j]? = some Dk.zsec) : sec8 d a = zeros 512 := by
  have e : (d.cur.drop a).take 8 = (List.replicate 8 Dk.zsec) := by
    apply List.ext_getElem?
    intro i
    rw [List.getElem?_take, List.getElem?_drop, List.getElem?_replicate]
    by_cases hi : i < 8
    · rw [if_pos hi, if_pos hi, h i hi]
    · rw [if_neg hi, if_neg hi]
  unfold sec8
  rw [e]; decide
theorem fmt_new {N n : Nat} (hN : N ≤ 65536) (hn : 4 ≤ n) (hnN : n ≤ N) : (∀ j, n ≤ j → j < N → (fmtE (Dk.mk0 N) ((0 : Nat) : Int) (n : Int)).1.cur[j]? = some Dk.zsec) ∧ ∀ j, Dk.isC (fmtE (Dk.mk0 N) ((0 : Nat) : Int) (n : Int)).1.chg j = false := by
  have hc := calm_mk0 hN
  have hl := mk0_len N
  have hf : fitsD (Dk.mk0 N) ((0 : Nat) : Int) (n : Int) = true := by
    unfold fitsD
    simp only [Bool.and_eq_true, decide_eq_true_eq]
    omega
  have e1 : ((n : Int) * 64).toNat = n * 64 := by omega
  have hz : (zeros (n * 64)).length = 64 * n := by rw [Lg.zeros_len']; omega
  obtain ⟨h1, h2, h3⟩ := hc.write (a := 0) (s := zeros (n * 64)) (by rw [hz]; omega) (by rw [hz]; omega)
  obtain ⟨g1, g2⟩ := write_calm hc (a := 0) (k := n) hz (by omega)
  obtain ⟨k1, k2, k3⟩ := h2.sync
  obtain ⟨q1, q2, q3, q4, q5⟩ := Dk.sync_calm h2.ar h2.on
  have hE : (fmtE (Dk.mk0 N) ((0 : Nat) : Int) (n : Int)).1 = ((Dk.mk0 N).write ((0 : Nat) : Int) (zeros (n * 64))).1.sync.1 := by
    unfold fmtE
    rw [hf, e1, cond_true]
    simp only [h1, decide_true, cond_true]
  rw [hE]
  refine ⟨fun j hj hjN => ?_, fun j => ?_⟩
  · rw [q2, g1, if_neg (by omega)]
    show (List.replicate N Dk.zsec)[j]? = _
    rw [List.getElem?_replicate, if_pos hjN]
  · have hch : ∀ e : Dk, Lg.Calm e → e.sync.1.chg = List.replicate e.tick.cur.length false := by
      intro e he
      unfold Dk.sync
      rw [he.on]
      simp only [cond_false, he.tick]
      rw [show ({ e with done := IntKind.i64.wrap (e.done + 1) } : Dk).gone = false from he.on]
      rfl
    rw [hch _ h2]; exact Dk.isC_rep _ _
theorem good_new {N n frm pages frames : Nat} (hN : N ≤ 65536) (hn : 4 ≤ n) (hf : n ≤ frm) (hp : frm + 8 * pages ≤ N) (h1 : 1 ≤ frames) : PGood ⟨newP (frm : Int) (pages : Int) (frames : Int), Lg.new 0 n, (fmtE (Dk.mk0 N) ((0 : Nat) : Int) (n : Int)).1⟩ (fun _ => none) := by
  obtain ⟨f1, f2⟩ := fmt_new hN hn (n := n) (N := N) (by omega)
  obtain ⟨g1, g2, g3⟩ := calm_fmt (calm_mk0 hN) (i := 0) (j := n) hn (by rw [mk0_len]; omega)
  rw [mk0_len] at g3
  generalize (fmtE (Dk.mk0 N) ((0 : Nat) : Int) (n : Int)).1 = d at f1 f2 g2 g3
  have hfr : ∀ (i : Nat) (f : Pf), (List.replicate frames pf0)[i]? = some f → f = pf0 := by
    intro i f hi
    exact List.eq_of_mem_replicate (List.mem_of_getElem? hi)
  have efr : (newP (frm : Int) (pages : Int) (frames : Int)).fr = List.replicate frames pf0 := by unfold newP; simp
  have epg : (newP (frm : Int) (pages : Int) (frames : Int)).pages = pages := by unfold newP; simp
  have efm : (newP (frm : Int) (pages : Int) (frames : Int)).frm = frm := by unfold newP; simp
  have hz : ∀ k, k < pages → (page ⟨newP (frm : Int) (pages : Int) (frames : Int), Lg.new 0 n, d⟩ k).2 ≠ 0 := by
    intro k hk
    unfold page
    simp only [efm]
    rw [sec8_zero (fun j hj => f1 _ (by omega) (by omega))]
    exact zeros_page
  refine ⟨Lg.wf_new hn (by omega), g2, ⟨?_, ?_⟩, ?_, ?_, ?_, ?_, ?_, ?_, ?_, ?_, fun _ _ _ j _ => f2 _⟩
  · simp only [efm]; show 0 + n ≤ frm; omega
  · simp only [efm, epg]; omega
  · simp only [efr, List.length_replicate]; exact h1
  · intro i f hi
    simp only [efr] at hi
    rw [hfr i f hi]; exact .inl rfl
  · intro i j f f' k hi _ e _
    simp only [efr] at hi
    rw [hfr i f hi] at e
    exact absurd e (pf0_num k)
  · intro i f k hi e
    simp only [efr] at hi
    rw [hfr i f hi] at e
    exact absurd e (pf0_num k)
  · intro k b e; cases e
  · intro i f k hi e
    simp only [efr] at hi
    rw [hfr i f hi] at e
    exact absurd e (pf0_num k)
  · intro k hk _
    simp only [epg] at hk
    exact ⟨fun b e => (by cases e), fun _ => hz k hk⟩
  · intro k hk e
    simp only [epg] at hk
    exact absurd e (hz k hk)

/-! ### What comes in -/
abbrev OpP := Int × Int × Int × PgT × Unit
section
variable {w w' : World} {S : Nat → Prop} {x : Nat} {o : OpP} {u : Value}
end
end Go.Proofs.YthbngnlmgplijaaGreatDoor

namespace Go.Proofs.YthbngnlmgplijaaGreatDoor
open Go.Al Go.Proofs
set_option linter.unusedVariables false
set_option linter.unusedSimpArgs false
set_option linter.unusedSectionVars false
set_option maxRecDepth 100000

theorem nt_body {k : Nat} (h : k ≤ 127) : rBody (atR nt k) = [UInt8.ofNat k, 0, 0, 2, 1, 0, 0, 0, 0, 0, 0, 0, 0, 0, 0, 0] := by
  have e0 : encI 0 = [0] := encI_small (n := 0) (by omega)
  have e1 : encI 1 = [1] := encI_small (n := 1) (by omega)
  have e2 : encI 2 = [2] := encI_small (n := 2) (by omega)
  have e0' : encI ((0 : Nat) : Int) = [0] := e0
  have ek := encI_small h
  simp only [rBody, atR, nt, numsB, headL, txtB, listB, List.length_nil, List.flatMap_cons, List.flatMap_nil, e0, e0', e1, e2, ek]
  rfl
theorem nt1 : (rCheck (atR nt 1)).2 = 0 := by
  have : rCheck (atR nt 1) = rInner (atR nt 1) := rfl
  rw [this]
  unfold rInner
  rw [nt_body (by omega)]
  rfl
theorem nt_len : (rEnc (atR nt 1)).1.length = 24 := by
  rw [rEnc_ok nt1 (by intro m hm; cases hm), nt_body (by omega)]
  simp only [List.length_append, beN_len, List.length_cons, List.length_nil]
def awL : Lg := { Lg.new 0 10 with kept := (rEnc (atR nt 1)).1, recs := [(1, atR nt 1)] }
theorem nt_app : (Lg.new 0 10).append nt = (awL, 1, 0) := by
  have ht : (Lg.new 0 10).tail = 1 := rfl
  have hr : (Lg.new 0 10).room = 432 := rfl
  unfold Lg.append
  rw [ht, hr, nt1, nt_len]
  rfl
theorem awL_tail : awL.tail = 25 := by
  show 1 + (rEnc (atR nt 1)).1.length = 25
  rw [nt_len]
theorem put_owed (s : PS) (i : Nat) : (s.put i).1.p.owed = s.p.owed ∧ (s.put i).1.l = s.l := by
  unfold PS.put
  cases decide ((pEnc (s.p.get i).pg).2 = 0) with
  | false => exact ⟨rfl, rfl⟩
  | true =>
    cases decide ((s.putW i).2 = 0) with
    | false => exact ⟨rfl, rfl⟩
    | true => exact ⟨rfl, rfl⟩
theorem write1_calm {s : PS} {i : Nat} (h : ¬ (s.l.last : Int) ≤ (s.p.get i).pg.lsn) : (s.write1 i).1.p.owed = s.p.owed ∧ (s.write1 i).1.l = s.l := by
  unfold PS.write1
  rw [decide_eq_false h, cond_false]
  exact put_owed s i
theorem write1_flush {s : PS} {i : Nat} (h : (s.l.last : Int) ≤ (s.p.get i).pg.lsn) (hf : (s.flu i).2.2 = 0) : (s.write1 i).1.p.owed = s.p.synced.owed ∧ (s.write1 i).1.l = (s.flu i).1 := by
  unfold PS.write1
  rw [decide_eq_true h, cond_true, decide_eq_true hf, cond_true]
  exact put_owed _ i
theorem take_calm {s : PS} (h : ∀ i, (s.p.get i).chg = true → ¬ (s.l.last : Int) ≤ (s.p.get i).pg.lsn) (pick : Int) : (s.take pick).1.p.owed = s.p.owed ∧ (s.take pick).1.l = s.l := by
  unfold PS.take
  cases s.p.hold (-1) with
  | some i => exact ⟨rfl, rfl⟩
  | none =>
    simp only
    generalize PS.pickAt s.p.fr.length pick = i
    cases hc : (s.p.get i).chg with
    | false => exact ⟨rfl, rfl⟩
    | true =>
      have := write1_calm (h i hc)
      cases decide ((s.write1 i).2 = 0) with
      | true => exact this
      | false => exact this
theorem fetch_calm {s : PS} (h : ∀ i, (s.p.get i).chg = true → ¬ (s.l.last : Int) ≤ (s.p.get i).pg.lsn) (n pick : Int) : (s.fetch n pick).1.p.owed = s.p.owed ∧ (s.fetch n pick).1.l = s.l := by
  have ht := take_calm h pick
  unfold PS.fetch
  cases decide (s.p.known n = 0) with
  | false => exact ⟨rfl, rfl⟩
  | true =>
    simp only [cond_true]
    cases s.p.hold n with
    | some i => exact ⟨rfl, rfl⟩
    | none =>
      simp only
      cases decide ((s.raw n).2 = 0) with
      | false => exact ⟨rfl, rfl⟩
      | true =>
        cases decide ((pDec (s.raw n).1).2 = 0) with
        | false => exact ⟨rfl, rfl⟩
        | true =>
          cases decide ((s.take pick).2.2 = 0) with
          | true => exact ht
          | false => exact ht
def awB1 : Pg := ⟨1, 2, 0, 0, [], [[120]]⟩
def awB2 : Pg := ⟨1, 2, 0, 0, [], []⟩
def awS (d : Dk) : PS := ⟨newP 10 4 1, awL, d⟩
def awS1 (d : Dk) : PS := ⟨⟨10, 4, [⟨awB1, 2, true⟩], [(2, 1)]⟩, awL, d⟩
theorem aw_set1 (d : Dk) : (awS d).set 2 awB1 0 = (awS1 d, 0) := by kernel_rfl
theorem aw_end {d : Dk} {lst : Nat → Option Pg} (h : PGood (awS1 d) lst) : ((awS1 d).set 3 awB2 0).2 = 0 ∧ ∃ lst', PGood ((awS1 d).set 3 awB2 0).1 lst' ∧ lst' 2 = some awB1 ∧ (((awS1 d).set 3 awB2 0).1.fetch 2 0).1.l.last = (((awS1 d).set 3 awB2 0).1.fetch 2 0).1.l.tail ∧ getD (((awS1 d).set 3 awB2 0).1.fetch 2 0).1.p.owed 2 ≠ none ∧ 2 < ((awS1 d).set 3 awB2 0).1.p.pages := by
  have hE2 : setE awB2 = 0 := by decide
  have hp : (2 : Nat) < (awS1 d).p.pages ∧ (3 : Nat) < (awS1 d).p.pages := by show 2 < 4 ∧ 3 < 4; omega
  obtain ⟨h1, h2, h3⟩ := h.set (n := 3) hp.2 (b := awB2) (by show (1 : Int) < (awL.tail : Int); rw [awL_tail]; decide) 0
  have hl2 : lst 2 = some awB1 := h.held 0 ⟨awB1, 2, true⟩ 2 rfl rfl
  have hq : ((awS1 d).l.last : Int) ≤ ((awS1 d).p.get 0).pg.lsn := by show (1 : Int) ≤ 1; decide
  have hflu : (awS1 d).flu 0 = awL.flush 1 d := rfl
  obtain ⟨f1, f2, f3, f4, f5, f6⟩ := flush_calm h.wl h.calm (by have := h.lay; omega) hq (by show (1 : Nat) < awL.tail; rw [awL_tail]; decide)
  have f1' : ((awS1 d).flu 0).2.2 = 0 := f1
  have f2' : ((awS1 d).flu 0).1 = { awL with last := awL.tail } := f2
  obtain ⟨w1, w2⟩ := write1_flush hq f1'
  obtain ⟨g1, _, _, g4⟩ := h.write1 (i := 0) (n := 2) (f := ⟨awB1, 2, true⟩) rfl rfl rfl
  have hset : (awS1 d).set 3 awB2 0 = ((((awS1 d).write1 0).1.lay 0 pf0).own 0 3 awB2, 0) := by
    have k1 : (awS1 d).p.known 3 = 0 := by kernel_rfl
    have k2 : (pEnc awB2).2 = 0 := by rw [pEnc_err]; decide
    have k3 : (awS1 d).p.hold 3 = none := rfl
    have k4 : (awS1 d).take 0 = (((awS1 d).write1 0).1.lay 0 pf0, 0, 0) := by
      have k5 : (awS1 d).p.hold (-1) = none := rfl
      have k6 : PS.pickAt (awS1 d).p.fr.length 0 = 0 := by kernel_rfl
      have k7 : ((awS1 d).p.get 0).chg = true := rfl
      unfold PS.take
      rw [k5]
      simp only [k6, k7, g1, cond_true, decide_true]
    unfold PS.set
    rw [k1, k2, k3, k4]
    simp only [decide_true, cond_true]
    rfl
  have hsy : (awS1 d).p.synced.owed = [(2, 1)] := rfl
  rw [hsy] at w1
  have ho : ((((awS1 d).write1 0).1.lay 0 pf0).own 0 3 awB2).p.owed = [(2, 1), (3, 1)] := by
    show (bif (getD ((awS1 d).write1 0).1.p.owed 3).isNone then setD ((awS1 d).write1 0).1.p.owed 3 awB2.lsn else ((awS1 d).write1 0).1.p.owed) = _
    rw [w1]; rfl
  have hl : ((((awS1 d).write1 0).1.lay 0 pf0).own 0 3 awB2).l = { awL with last := awL.tail } := by
    show ((awS1 d).write1 0).1.l = _
    rw [w2, f2']
  have hfr : ((((awS1 d).write1 0).1.lay 0 pf0).own 0 3 awB2).p.fr = [⟨awB2, 3, true⟩] := by
    show ((((awS1 d).write1 0).1.p.fr.set 0 pf0).set 0 ⟨awB2, 3, true⟩) = _
    rw [g4]; rfl
  rw [show ((3 : Nat) : Int) = 3 from rfl] at h3
  rw [hset] at h3 ⊢
  simp only at h3 ⊢
  have hpp : 2 < ((((awS1 d).write1 0).1.lay 0 pf0).own 0 3 awB2).p.pages := by
    show 2 < ((awS1 d).write1 0).1.p.pages
    rw [(write1_len (awS1 d) 0).2.1]; show 2 < 4; omega
  generalize ((((awS1 d).write1 0).1.lay 0 pf0).own 0 3 awB2) = s3 at h3 ho hl hfr hpp ⊢
  rw [if_pos hE2] at h3
  have hcalm : ∀ i, (s3.p.get i).chg = true → ¬ (s3.l.last : Int) ≤ (s3.p.get i).pg.lsn := by
    intro i hc
    unfold Pl.get at hc ⊢
    rw [hfr] at hc ⊢
    rw [hl]
    match i with
    | 0 => show ¬ ((awL.tail : Int) ≤ 1); rw [awL_tail]; decide
    | i + 1 => cases hc
  obtain ⟨q1, q2⟩ := fetch_calm hcalm 2 0
  refine ⟨trivial, _, h3, ?_, ?_, ?_⟩
  · unfold upd; rw [if_neg (by decide)]; exact hl2
  · rw [q2, hl]; rfl
  · rw [q1, ho]; exact ⟨by decide, hpp⟩
theorem bldB1 (a : Option Addr) (j c : Nat) (w : World) : (Instr.build 61 #[(0, iv 1), (1, iv 2), (5, .slice a j c)]).run Tryz.prog w = .ok (.agg (pcs awB1 (.slice a j c))) w := by kernel_rfl
theorem bldB2 (w : World) : (Instr.build 61 #[(0, iv 1), (1, iv 2)]).run Tryz.prog w = .ok (.agg (pcs awB2 nlv)) w := by kernel_rfl
theorem awB2_as (w : World) : PgAs w (pcs awB2 nlv) awB2 := ⟨⟨_, rfl, rfl, items_nil w⟩, by simp [awB2], by simp [awB2, In]⟩
set_option maxHeartbeats 8000000 in
theorem paw_spec (w : World) : Cl Tryz.prog 35 [] w fun v w' => v = .bool true ∧ Fm (fun _ => False) w w' := by
  refine c35 ?_; unfold T35
  refine (dnew_spec w 60).mono ?_
  rintro _ w1 ⟨_, h2⟩
  obtain ⟨b, g, m, rfl, hb, hg, hm, hd, hf1⟩ := h2 (by omega)
  clear h2
  have hlt := hd.lt
  change DAt w1 b g m (Dk.mk0 60) at hd
  simp only [RS0, RS1, RS2, RS3, RS4, RS5, bne_refl0]
  have hG0 := good_new (N := 60) (n := 10) (frm := 10) (pages := 4) (frames := 1) (by decide) (by decide) (by decide) (by decide) (by decide)
  obtain ⟨hz0, _, hdl⟩ := calm_fmt (calm_mk0 (n := 60) (by omega)) (i := 0) (j := 10) (by omega) (by rw [mk0_len]; omega)
  rw [mk0_len] at hdl
  refine (wformat_spec hd ((0 : Nat) : Int) ((10 : Nat) : Int)).mono ?_
  rintro _ w2 ⟨p, rfl, hd2, hf2, _, h3⟩
  obtain ⟨lb, X, rfl, hL2, hX⟩ := h3 hz0
  rw [hz0]
  generalize (fmtE (Dk.mk0 60) ((0 : Nat) : Int) ((10 : Nat) : Int)).1 = d2 at hd2 hG0 hdl
  simp only [Int.toNat_natCast] at hL2
  have hF2 : Fm (fun _ => False) w w2 := Fm.own hf1 hf2 (by rintro y (rfl | rfl | rfl) <;> assumption)
  have z1 := hf1.size
  simp only [RS0, RS1, RS2, RS3, RS4, RS5, bne_refl0]
  refine (pnew_spec hd2 lb ((10 : Nat) : Int) ((4 : Nat) : Int) ((1 : Nat) : Int) (by unfold In; omega)).mono ?_
  rintro v w3 ⟨hf3, hc⟩
  have hnb : newBad d2 ((10 : Nat) : Int) ((4 : Nat) : Int) ((1 : Nat) : Int) = false := by unfold newBad; rw [hdl]; decide
  rcases hc with ⟨e, _⟩ | ⟨_, pb, fb, ob, Xp, F, rfl, hP, hwf, hXp⟩
  · rw [hnb] at e; cases e
  have hF3 := Fmf hF2 hf3
  obtain ⟨Y, hS⟩ := Sys.made (w0 := w) hd2 ⟨⟨hb, hg, hm⟩, hlt⟩ hL2 hX z1 hf3 hP hXp hwf hF3
  clear hP hL2 hd2 hX hXp h3
  simp only [RS0, RS1, RS2, RS3, RS4, RS5, bne_refl0]
  refine (note_spec w3).mono ?_
  rintro _ w4 ⟨rfl, hf4⟩
  refine ((hS.keep0 hf4).append (r := nt) (fun w' _ => nt_as w')).mono ?_
  rintro _ w5 ⟨rfl, ⟨Y5, hS5, _⟩, hf5⟩
  obtain ⟨hG1, _⟩ := hG0.append nt nt_lsns
  simp only at hS5 hG1
  rw [nt_app] at hS5 hG1 ⊢
  simp only at hS5 hG1
  simp only [RS0, RS1, RS2, RS3, RS4, RS5]
  have hbs := bs22 [120] w5
  refine RunS_ok hbs ?_
  have hfa := Fm.alloc (fun _ => False) w5 (.cells #[stv [120]] 9)
  have hna := own_new (w := w5) (e := 9) (sz := 1) (base := w5.heap.size) (n := 1) (l := [stv [120]]) rfl (Nat.le_refl _) (by unfold maxLen; omega)
  have z6 := alloc_size w5 (.cells #[stv [120]] 9)
  have hS6 := hS5.keep0 hfa
  change (w5.alloc (.cells #[stv [120]] 9)).ownsRow _ _ _ _ _ _ at hna
  generalize w5.alloc (.cells #[stv [120]] 9) = w6 at hfa hna hS6 z6
  refine RunS_ok (bldB1 _ _ _ _) ?_
  have hb1 : PgOw w6 w5.heap.size (pcs awB1 (.slice (some ⟨w5.heap.size, 0, none⟩) 1 1)) awB1 := ⟨⟨_, rfl, hna⟩, by simp [awB1], by simp [awB1, In]⟩
  refine (hS6.set (b := awB1) (fun w' hf => ?_) 2 0).mono ?_
  · refine (HeldP.of_own (P := fun y => y = w5.heap.size) hb1 (fun y hy => ?_)) w' (hf.mono (fun y _ hy e => ?_))
    · cases hy; rfl
    · have := (hS5.ge y hy).2; omega
  rintro _ w7 ⟨rfl, ⟨Y7, hS7, _⟩, hf7⟩
  obtain ⟨_, _, hG2⟩ := hG1.set (n := 2) (by show (2 : Nat) < Int.toNat ((4 : Nat) : Int); decide) (b := awB1) (by show (1 : Int) < (awL.tail : Int); rw [awL_tail]; decide) 0
  have e1 := aw_set1 d2
  unfold awS at e1
  have ecast : ((2 : Nat) : Int) = 2 := rfl
  have e10 : newP ((10 : Nat) : Int) ((4 : Nat) : Int) ((1 : Nat) : Int) = newP 10 4 1 := rfl
  rw [ecast] at hG2
  rw [e10] at hS7 hG2 ⊢
  rw [e1] at hS7 hG2 ⊢
  simp only at hS7 hG2
  obtain ⟨k1, lst', k2, k3, k4, k5, hpg⟩ := aw_end hG2
  simp only [RS0, RS1, RS2, RS3, RS4, RS5]
  refine RunS_ok (bldB2 _) ?_
  refine (hS7.set (b := awB2) (fun w' hf => awB2_as w') 3 0).mono ?_
  rintro _ w8 ⟨rfl, ⟨Y8, hS8, _⟩, hf8⟩
  rw [k1]
  generalize ((awS1 d2).set 3 awB2 0).1 = s3 at hS8 k2 k4 k5 hpg
  obtain ⟨_, _, hres⟩ := k2.fetch (n := 2) hpg 0
  rw [k3, ecast] at hres
  refine (hS8.fetch 2 0).mono ?_
  rintro _ w9 ⟨u, rfl, ho9, ⟨Y9, hS9, _, _⟩, hf9⟩
  rw [hres] at ho9 ⊢
  simp only at ho9
  generalize (s3.fetch 2 0).1 = s4 at hS9 k4 k5
  obtain ⟨u', hue, hou⟩ := ho9.ex
  obtain rfl := pcs_inj hue
  have hca : CellsAt w9 u 1 1 [stv [120]] := CellsAt.of_own hou
  have hu1 := own_one hou
  simp only [RS0, RS1, RS2, RS3, RS4, RS5]
  refine New_any ?_
  intro x10 w10 hx10 hs10 hw10 hf10
  refine St_all hw10 rfl rfl (pcs_one hu1) ?_
  intro w11 hw11 hs11 hf11
  have hF11 : Fm (fun _ => False) w9 w11 := Fm.own hf10 hf11 (by rintro y rfl; omega)
  have c5 : w11.cell? ⟨x10, 5, none⟩ = some u := by rw [cell_at hw11]; rfl
  have hca11 := hca.keep hF11 (fun _ _ e => e)
  obtain ⟨ad, hix, _, hcell⟩ := hca11.at1 (i := 0) (x := stv [120]) rfl .i64
  have hlv := hca11.lenV
  have hS11 := hS9.keep0 hF11
  have b0 : ((0 : Int) == 0) = true := rfl
  have b1 : (((1 : Nat) : Int) == 1) = true := rfl
  have b2 : decide (str [120] = ByteArray.mk #[120]) = true := decide_eq_true rfl
  have hix' : ixV 1 u (Value.int IntKind.i64 0) = some (.pointer (some ad)) := hix
  simp only [RS0, RS1, RS2, RS3, RS4, RS5, b0, b1, b2, c5, hlv, hix', hcell]
  refine hS11.flushed.mono ?_
  rintro _ w12 ⟨rfl, hf12⟩
  have hS12 := hS11.keep0 hf12
  try simp only [RS0, RS1, RS2, RS3, RS4, RS5]
  refine hS12.tail.mono ?_
  rintro _ w13 ⟨rfl, hf13⟩
  have hS13 := hS12.keep0 hf13
  rw [k4]
  simp only [RS0, RS1, RS2, RS3, RS4, RS5, beq_dec, decide_true]
  refine (hS13.owes 2).mono ?_
  rintro _ w13 ⟨rfl, rfl⟩
  have hk : (getD s4.p.owed 2).isNone = false := by
    cases hq : getD s4.p.owed 2 with
    | none => exact absurd hq k5
    | some _ => rfl
  rw [hk]
  simp only [RS0, RS1, RS2, RS3, RS4, RS5]
  exact ⟨(by trivial), hS13.fm⟩
end Go.Proofs.YthbngnlmgplijaaGreatDoor

namespace Go.Proofs.YthbngnlmgplijaaGreatDoor
open Go.Al Go.Proofs
set_option linter.unusedVariables false
set_option linter.unusedSimpArgs false
set_option linter.unusedSectionVars false
set_option maxRecDepth 100000

theorem pfetch_nil (w : World) (n k : Value) : Cl Tryz.prog 33 [.pointer none, n, k] w fun v w' => v = .tuple #[.agg (pcs pg0 nlv), iv 2] ∧ Fm (fun _ => False) w w' := by
  refine c33 ?_; unfold T33
  rw [pg0_cells]
  refine New_any ?_
  intro x1 w1 hx1 hs1 hw1 hf1
  refine (pknown_nil w1 n).mono ?_
  rintro _ w1 ⟨rfl, rfl⟩
  simp only [RS0, RS1, RS2, RS3, RS4, RS5, show ((2 : Int) != 0) = true from rfl]
  refine RunS_ok (bld24z _) ?_
  refine St_all hw1 rfl rfl (pcs_one rfl) ?_
  intro w2 hw2 hs2 hf2
  exact retPf hw2 rfl ⟨rfl, Fm.own hf1 hf2 (by rintro y rfl; omega)⟩
theorem pset_nil (w : World) (n k : Value) (cs : Array Value) : Cl Tryz.prog 32 [.pointer none, n, .agg cs, k] w fun v w' => v = iv 2 ∧ Fm (fun _ => False) w w' := by
  refine c32 ?_; unfold T32
  refine New_any ?_
  intro x1 w1 hx1 hs1 hw1 hf1
  refine (pknown_nil w1 n).mono ?_
  rintro _ w1 ⟨rfl, rfl⟩
  simp only [RS0, RS1, RS2, RS3, RS4, RS5, show ((2 : Int) != 0) = true from rfl]
  exact ⟨(by trivial), hf1⟩
theorem pwrite_nil (w : World) (n : Value) : Cl Tryz.prog 37 [.pointer none, n] w fun v w' => v = iv 2 ∧ w' = w := by
  refine c37 ?_; unfold T37
  refine (pknown_nil w n).mono ?_
  rintro _ w1 ⟨rfl, rfl⟩
  simp only [RS0, RS1, RS2, RS3, RS4, RS5, show ((2 : Int) != 0) = true from rfl]
  exact ⟨(by trivial), (by trivial)⟩
theorem pdirty_nil (w : World) : Cl Tryz.prog 44 [.pointer none] w fun v w' => v = nlv ∧ w' = w := by
  refine c44 ?_; unfold T44
  simp only [RS0, RS1, RS2, RS3, RS4, RS5]
  exact ⟨(by trivial), (by trivial)⟩
theorem pheld_nil (w : World) : Cl Tryz.prog 45 [.pointer none] w fun v w' => v = nlv ∧ w' = w := by
  refine c45 ?_; unfold T45
  simp only [RS0, RS1, RS2, RS3, RS4, RS5]
  exact ⟨(by trivial), (by trivial)⟩
set_option maxHeartbeats 4000000 in
theorem pnil_law (w : World) (n : Int) : Cl Tryz.prog 9 [iv n] w fun v w' => v = .bool true ∧ Fm (fun _ => False) w w' := by
  refine c9 ?_; unfold T9
  refine (psynced_nil w).mono ?_
  rintro _ w1 hf1
  refine (pfetch_nil w1 _ _).mono ?_
  rintro _ w2 ⟨rfl, hf2⟩
  have hF2 := Fmf hf1 hf2
  simp only [RS0, RS1, RS2, RS3, RS4, RS5]
  refine New_any ?_
  intro x3 w3 hx3 hs3 hw3 hf3
  refine St_all hw3 rfl rfl (pcs_one rfl) ?_
  intro w4 hw4 hs4 hf4
  have hF4 : Fm (fun _ => False) w w4 := Fm.own (Fmf hF2 hf3) hf4 (by have := hF2.size; rintro y rfl; omega)
  have e2 : ((2 : Int) == 2) = true := rfl
  have e0 : (((0 : Nat) : Int) == 0) = true := rfl
  simp only [RS0, RS1, RS2, RS3, RS4, RS5, e2]
  refine RunS_ok (bld24z _) ?_
  try simp only [RS0, RS1, RS2, RS3, RS4, RS5]
  refine (pset_nil w4 _ _ _).mono ?_
  rintro _ w5 ⟨rfl, hf5⟩
  have hF5 := Fmf hF4 hf5
  simp only [RS0, RS1, RS2, RS3, RS4, RS5, e2]
  refine (powes_nil w5 _).mono ?_
  rintro _ w5 ⟨rfl, rfl⟩
  simp only [RS0, RS1, RS2, RS3, RS4, RS5]
  refine (pwrite_nil w5 _).mono ?_
  rintro _ w5 ⟨rfl, rfl⟩
  simp only [RS0, RS1, RS2, RS3, RS4, RS5, e2]
  refine (pdirty_nil w5).mono ?_
  rintro _ w5 ⟨rfl, rfl⟩
  simp only [RS0, RS1, RS2, RS3, RS4, RS5, e0]
  refine (pheld_nil w5).mono ?_
  rintro _ w5 ⟨rfl, rfl⟩
  simp only [RS0, RS1, RS2, RS3, RS4, RS5, e0]
  refine (paw_spec w5).mono ?_
  rintro _ w6 ⟨rfl, hf6⟩
  simp only [RS0, RS1, RS2, RS3, RS4, RS5]
  exact ⟨(by trivial), Fmf hF5 hf6⟩
end Go.Proofs.YthbngnlmgplijaaGreatDoor

namespace Go.Al
set_option linter.unusedVariables false
set_option linter.unusedSimpArgs false
set_option linter.unusedSectionVars false
open Go.ChangeShapes Go.WideShapes Go.ChangeAt Go.RowKit

theorem law_laid {H : Type} {enc : TypeId × Value → H} {C : Checked} {os : Os} {f : FuncId} {fn : Func} {s : ChangeSpec} {conds : List PathCond} {tb : TypeId} {X : World → Array Value → Prop} (hX : ∀ (w w' : World) (args : Array Value), w.heap = w'.heap → X w args → X w' args)
    (own : ownKnob C.prog.godebug = none) (started : os.Started) (noInit : C.prog.inits.idxOf? f = none) (hfn : C.prog.funcs[f]? = some fn)
    (hlaid : laidOutB C.prog = true)
    (witness : ∃ (w : World) (tape : Tape) (i : Input), w.os = os ∧ (w.forCall tape i).Shaped C.prog ∧ i.vars = [] ∧ Input.okWide C.prog (w.forCall tape i) .any w.heap.size f i ∧
      ((s.pre enc C.prog fn conds false (w.forCall tape i).memory i.args ∧ X (w.forCall tape i).memory i.args) ∧ sizedMet enc C.prog fn (OpenSpec.ofChange s) false (w.forCall tape i).memory i.args) ∧ ({} : Assume).holds C.prog (lone (Frame.enter C.prog f i.args .normal) [] (w.forCall tape i)))
    (hres : fn.resultTypes = #[tb]) (hbool : C.prog.underlying tb = some .bool) (hvars : s.vars = [])
    (hrow : ∀ t ∈ fn.params.toList, C.prog.readableRec t = true ∧ t < C.prog.types.size)
    (hs : ∀ ds : List (DataW H), ds.length = fn.params.toList.length → s.fn H ds = { results := [.lit (.bool true)], args := ds, vars := [] })
    (law : ∀ (W : World) (args : List Value) (ds : List (DataW H)) (p : List MemPlace), LawIn enc C.prog fn.params.toList W args ds p → Cl C.prog f args W fun v w' => v = .bool true ∧ Fm (fun _ => False) W w') :
    ReturnsInHanded {} C os f .any (fun w args => (s.pre enc C.prog fn conds false w args ∧ X w args) ∧ sizedMet enc C.prog fn (OpenSpec.ofChange s) false w args) (s.post enc C.prog fn false true false false) := by
  refine returnsInHanded_of_change_and (X := X) hX own started noInit hfn witness ?_
  intro W base args ds gs before hval hW hcnd hsz _ _
  have hW' := hW
  obtain ⟨p, q, hA, hV, rfl, hfz, hnd⟩ := hW
  rw [hvars] at hV
  obtain ⟨rfl, rfl⟩ := trodVars_none hV
  have hty : s.plain.varTypes C.prog = [] := by simp [DataSpec.varTypes, ChangeSpec.plain, hvars]
  simp only [hty, List.append_nil] at hsz
  have hlt : ∀ x ∈ p, x.block < W.heap.size := fun x hx => hW'.lt x (by simp [hx])
  have hlen := (trodAll_length hA).2
  refine (cl_true (law W args.toList ds p ⟨hA, ⟨base, fun j t v hj hv => hval j t v (by simpa using hj) (by simpa using hv)⟩, hsz, hlt⟩)).mono fun e W' ⟨he, hb⟩ => ?_
  subst he
  refine ⟨_, rfl, ds, [], p ++ [], [], p, [], hW', ?_, ?_, ?_, hb.frame _, fun h => by cases h⟩
  · rw [List.append_nil, hs ds hlen, hres]
    exact trodAll_cons_mk (shut_bool hbool _) trodAll_mk0
  · rw [List.append_nil, hs ds hlen]
    exact trodAll_below hlaid hb hrow hA hlt
  · rw [List.append_nil, hs ds hlen, hvars]; trivial

end Go.Al
