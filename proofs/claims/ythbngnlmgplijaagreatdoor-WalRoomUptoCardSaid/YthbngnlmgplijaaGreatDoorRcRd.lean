/- Texts and lists are read; what comes out is within bounds. -/
import Derived.Test.YthbngnlmgplijaaGreatDoorRcEnc2
namespace Go.Proofs.YthbngnlmgplijaaGreatDoor
open Go.Al Go.Proofs
set_option linter.unusedVariables false
set_option linter.unusedSimpArgs false
set_option linter.unusedSectionVars false
set_option maxRecDepth 100000

theorem rn_in (most : Int) (st : St2) : 0 ≤ (rn most st).1 ∧ (rn most st).1 ≤ max most 0 ∧ (rn most st).2.1.length ≤ st.1.length := by
  unfold rn rdNum
  cases decide (st.2 = 0) with
  | true => exact rdN_in most 9 0 0 st.1
  | false => exact ⟨Int.le_refl _, by show (0 : Int) ≤ _; omega, Nat.le_refl _⟩
theorem rt_in {most : Int} (hm : 0 ≤ most) (st : St2) : ((rt most st).1.length : Int) ≤ most ∧ (rt most st).2.1.length ≤ st.1.length := by
  have h := rn_in most st
  unfold rt
  cases decide ((rn most st).2.2 = 0) with
  | true =>
    cases hd : decide (((rn most st).2.1.length : Int) < (rn most st).1) with
    | true => simp; omega
    | false => simp only [cond_true, cond_false, List.length_take, List.length_drop]; omega
  | false => simp only [cond_false, List.length_nil]; omega
theorem rlGo_in : ∀ (n : Nat) (st : St2), (rlGo n st).1.length ≤ n ∧ (∀ x ∈ (rlGo n st).1, okN x) ∧ (rlGo n st).2.1.length ≤ st.1.length
  | 0, st => ⟨Nat.le_refl _, by simp [rlGo], Nat.le_refl _⟩
  | n + 1, st => by
    have h := rn_in 4611686018427387904 st
    have ih := rlGo_in n (rn 4611686018427387904 st).2
    have h1 : okN (rn 4611686018427387904 st).1 := ⟨h.1, by have := h.2.1; omega⟩
    unfold rlGo
    cases decide ((rn 4611686018427387904 st).2.2 = 0) with
    | true =>
      simp only [cond_true, List.length_cons]
      refine ⟨by omega, fun x hx => ?_, by omega⟩
      rcases List.mem_cons.1 hx with rfl | hx
      · exact h1
      · exact ih.2.1 x hx
    | false =>
      simp only [cond_false]
      refine ⟨by simp, fun x hx => ?_, h.2.2⟩
      obtain rfl : x = _ := by simpa using hx
      exact h1
theorem rl_in {most : Int} (hm : 0 ≤ most) (st : St2) : ((rl most st).1.length : Int) ≤ most ∧ (∀ x ∈ (rl most st).1, okN x) ∧ (rl most st).2.1.length ≤ st.1.length := by
  have h := rn_in most st
  have h2 := rlGo_in (rn most st).1.toNat (rn most st).2
  unfold rl
  exact ⟨by omega, h2.2.1, by omega⟩
theorem riGo_in : ∀ (n : Nat) (st : St2) {r : List (Int × Pg) × St2}, riGo n st = some r → r.1.length = n ∧ (∀ m ∈ r.1, okN m.1 ∧ m.2.lsn ≤ 9223372036854775807) ∧ r.2.1.length ≤ st.1.length
  | 0, st, r, h => by cases h; exact ⟨rfl, by simp, Nat.le_refl _⟩
  | n + 1, st, r, h => by
    have h0 := rn_in 4611686018427387904 st
    have h1 := rt_in (most := 512) (by omega) (rn 4611686018427387904 st).2
    unfold riGo at h
    cases hc : decide ((pDec (padZ (rt 512 (rn 4611686018427387904 st).2).1)).2 = 0) && decide ((rt 512 (rn 4611686018427387904 st).2).2.2 = 0) with
    | false => rw [hc, cond_false] at h; cases h
    | true =>
      rw [hc, cond_true, Option.map_eq_some_iff] at h
      obtain ⟨q, hq, rfl⟩ := h
      have ih := riGo_in n _ hq
      rw [Bool.and_eq_true, decide_eq_true_eq] at hc
      refine ⟨by simp only [List.length_cons]; omega, fun m hm => ?_, by simp only; omega⟩
      rcases List.mem_cons.1 hm with rfl | hm
      · exact ⟨⟨h0.1, by have := h0.2.1; simp only; omega⟩, (enc_dec hc.1).2.2⟩
      · exact ih.2.1 m hm
theorem rpGo_in : ∀ (n : Nat) (st : St2) {r : List (Int × Int) × St2}, rpGo n st = some r → r.1.length = n ∧ (∀ m ∈ r.1, okN m.1 ∧ okN m.2) ∧ r.2.1.length ≤ st.1.length
  | 0, st, r, h => by cases h; exact ⟨rfl, by simp, Nat.le_refl _⟩
  | n + 1, st, r, h => by
    have h0 := rn_in 4611686018427387904 st
    have h1 := rn_in 4611686018427387904 (rn 4611686018427387904 st).2
    unfold rpGo at h
    cases hc : decide (st.2 = 0) with
    | false => rw [hc, cond_false] at h; cases h
    | true =>
      rw [hc, cond_true, Option.map_eq_some_iff] at h
      obtain ⟨q, hq, rfl⟩ := h
      have ih := rpGo_in n _ hq
      refine ⟨by simp only [List.length_cons]; omega, fun m hm => ?_, by simp only; omega⟩
      rcases List.mem_cons.1 hm with rfl | hm
      · exact ⟨⟨h0.1, by have := h0.2.1; simp only; omega⟩, ⟨h1.1, by have := h1.2.1; simp only; omega⟩⟩
      · exact ih.2.1 m hm
structure Bnd (r : Rc) : Prop where
  nums : ∀ n ∈ rNums r, okN n
  kind : 0 ≤ r.kind ∧ r.kind ≤ 13
  data : r.data.length ≤ 512
  slots : r.slots.length ≤ 255
  more : r.more.length ≤ 255
  imgs : r.imgs.length ≤ 4
  pages : r.pages.length ≤ 8192
  txns : r.txns.length ≤ 1024
  lsns : ∀ m ∈ r.imgs, m.2.lsn ≤ 9223372036854775807
theorem mem_prs2 {l : List (Int × Int)} {n : Int} (h : n ∈ prs l) : ∃ p ∈ l, n = p.1 ∨ n = p.2 := by
  unfold prs at h
  obtain ⟨p, hp, hn⟩ := List.mem_flatMap.1 h
  simp at hn
  exact ⟨p, hp, hn⟩
theorem tail_in {a : List Int} {st : St2} {x : Rc} (h : tailP a st = some x) (ha : ∀ i, i < 10 → i ≠ 3 → okN (gI a i)) (hk : 0 ≤ gI a 3 ∧ gI a 3 ≤ 13) : Bnd x := by
  unfold tailP at h
  have t1 := rt_in (most := 512) (by omega) st
  have t2 := rl_in (most := 255) (by omega) (rt 512 st).2
  have t3 := rl_in (most := 255) (by omega) (rl 255 (rt 512 st).2).2
  have t4 := rn_in 4 (rl 255 (rl 255 (rt 512 st).2).2).2
  simp only at h
  rw [Option.bind_eq_some_iff] at h
  obtain ⟨im, h1, h⟩ := h
  rw [Option.bind_eq_some_iff] at h
  obtain ⟨pg, h2, h⟩ := h
  rw [Option.bind_eq_some_iff] at h
  obtain ⟨tx, h3, h⟩ := h
  have t5 := rn_in 8192 im.2
  have t6 := rn_in 1024 pg.2
  have u1 := riGo_in _ _ h1
  have u2 := rpGo_in _ _ h2
  have u3 := rpGo_in _ _ h3
  cases he : decide (endE tx.2.1 tx.2.2 = 0) with
  | false => rw [he, cond_false] at h; cases h
  | true =>
    rw [he, cond_true] at h
    cases h
    refine ⟨fun n hn => ?_, hk, by simp only; omega, by simp only; omega, by simp only; omega, by simp only; omega, by simp only; omega, by simp only; omega, fun m hm => (u1.2.1 m hm).2⟩
    unfold rNums at hn
    simp only [List.mem_append] at hn
    rcases hn with ((((hn | hn) | hn) | hn) | hn) | hn
    · simp only [List.mem_cons, List.not_mem_nil, or_false] at hn
      rcases hn with rfl | rfl | rfl | rfl | rfl | rfl | rfl | rfl | rfl <;> exact ha _ (by omega) (by omega)
    · exact t2.2.1 n hn
    · exact t3.2.1 n hn
    · obtain ⟨m, hm, rfl⟩ := List.mem_map.1 hn
      exact (u1.2.1 m hm).1
    · obtain ⟨p, hp, e | e⟩ := mem_prs2 hn <;> rw [e]
      · exact (u2.2.1 p hp).1
      · exact (u2.2.1 p hp).2
    · obtain ⟨p, hp, e | e⟩ := mem_prs2 hn <;> rw [e]
      · exact (u3.2.1 p hp).1
      · exact (u3.2.1 p hp).2

/-! ### The reader's texts and lists -/
theorem rnum_spec {w : World} {rb : Nat} {st : St2} (h : RdAt w rb st.1 st.2) (hs : st.1.length ≤ 1000000) {most : Int} (hm : most ≤ 9223372036854775807) : Cl Tryz.prog 150 [pv rb, iv most] w fun v w' => v = iv (rn most st).1 ∧ RdAt w' rb (rn most st).2.1 (rn most st).2.2 ∧ Fm (· = rb) w w' :=
  bnum_spec h most (by omega) hm
set_option maxHeartbeats 1000000 in
theorem rtext_spec {w : World} {rb : Nat} {st : St2} (h : RdAt w rb st.1 st.2) (hs : st.1.length ≤ 1000000) {most : Int} (hm : most ≤ 9223372036854775807) : Cl Tryz.prog 151 [pv rb, iv most] w fun v w' => v = stv (rt most st).1 ∧ RdAt w' rb (rt most st).2.1 (rt most st).2.2 ∧ Fm (· = rb) w w' := by
  refine c151 ?_; unfold T151
  refine (rnum_spec h hs hm).mono ?_
  have hin := rn_in most st
  unfold rt
  rintro _ w1 ⟨rfl, h1, hf1⟩
  generalize (rn most st).1 = n at hin ⊢
  generalize (rn most st).2 = st1 at hin h1
  simp only [RS0, RS1, RS2, RS3, RS4, RS5, h1.c1, bne_dec]
  cases hz : decide (st1.2 = 0) with
  | false =>
    simp only [RS0, RS1, RS2, RS3, RS4, RS5, cond_false]
    exact ⟨(by trivial), h1, hf1⟩
  | true =>
    obtain ⟨j, rfl⟩ := Int.eq_ofNat_of_zero_le hin.1
    simp only [RS0, RS1, RS2, RS3, RS4, RS5, cond_true, h1.c0, str_size, Int.toNat_natCast]
    cases hd : decide ((st1.1.length : Int) < (j : Int)) with
    | true =>
      simp only [RS0, RS1, RS2, RS3, RS4, RS5, cond_true]
      refine (bfail_spec h1 10).mono ?_
      rintro _ w2 ⟨rfl, h2, hf2⟩
      try simp only [RS0, RS1, RS2, RS3, RS4, RS5]
      exact ⟨(by trivial), h2, hf1.trans hf2 (fun _ _ e => e) (fun _ _ e => e)⟩
    | false =>
      rw [decide_eq_false_iff_not] at hd
      have s1 := slS_hi (l := st1.1) (i := j) (by omega) .i64
      have s2 := slS_lo (l := st1.1) (i := j) (by omega) .i64
      simp only [RS0, RS1, RS2, RS3, RS4, RS5, cond_false, h1.c0, s1, s2]
      refine St_blk h1 (by show 0 < 2; decide) rfl ?_
      intro w2 hw2 hs2 hf2
      rw [decide_eq_true_eq] at hz
      refine ⟨(by trivial), ?_, hf1.trans hf2 (fun _ _ e => e) (fun _ _ e => e)⟩
      have : RdAt w2 rb (st1.1.drop j) st1.2 := hw2
      rw [hz] at this
      exact this
set_option maxHeartbeats 2000000 in
theorem rlist_spec {w : World} {rb : Nat} {st : St2} (h : RdAt w rb st.1 st.2) (hs : st.1.length ≤ 1000000) : Cl Tryz.prog 152 [pv rb, iv 255] w fun v w' => w'.ownsRow w.heap.size 3 1 v (rl 255 st).1.length ((rl 255 st).1.map iv) ∧ RdAt w' rb (rl 255 st).2.1 (rl 255 st).2.2 ∧ Fm (· = rb) w w' := by
  refine c152 ?_; unfold T152
  refine Jn_at (fun vs w' => ∃ v, vs = [v] ∧ w'.ownsRow w.heap.size 3 1 v (rl 255 st).1.length ((rl 255 st).1.map iv) ∧ RdAt w' rb (rl 255 st).2.1 (rl 255 st).2.2 ∧ Fm (· = rb) w w') ?_ ?_
  · rintro _ w' ⟨v, rfl, g⟩ _
    exact ⟨v, rfl, g⟩
  · intro jj hjj
    refine (rnum_spec h hs (by omega)).mono ?_
    have hin := rn_in 255 st
    unfold rl at hjj
    rintro _ w1 ⟨rfl, h1, hf1⟩
    generalize (rn 255 st).1 = n at hin hjj ⊢
    generalize (rn 255 st).2 = st1 at hin h1 hjj
    obtain ⟨N, rfl⟩ := Int.eq_ofNat_of_zero_le hin.1
    rw [Int.toNat_natCast] at hjj
    have hz1 := hf1.size
    refine ⟨fun vs w' => ∃ (i : Nat) (v : Value) (L : List Int) (st2 : St2), vs = [v, iv i] ∧ i ≤ N ∧ L.length = i ∧ w'.ownsRow w.heap.size 3 1 v L.length (L.map iv) ∧ RdAt w' rb st2.1 st2.2 ∧ st2.1.length ≤ 1000000 ∧ rlGo N st1 = (L ++ (rlGo (N - i) st2).1, (rlGo (N - i) st2).2) ∧ Fm (· = rb) w w', fun vs _ => (N - nth vs 1).toNat, ⟨0, _, [], st1, rfl, by omega, rfl, World.ownsRow_nil _ _ _ _, h1, by omega, rfl, hf1⟩, ?_⟩
    rintro _ w2 v iv2 ⟨i, v0, L, st2, hvs, hi, hL, ho2, h2, hl2, heq, hf2⟩
    cases hvs
    have hz2 := hf2.size
    by_cases hlt : i < N
    · have d1 : decide ((i : Int) < (N : Int)) = true := by rw [decide_eq_true_eq]; omega
      have e1 : IntKind.i64.wrap ((i : Int) + 1) = ((i + 1 : Nat) : Int) := by rw [wrap_id] <;> omega
      obtain ⟨m, hm⟩ : ∃ m, N - i = m + 1 := ⟨N - i - 1, by omega⟩
      have hm1 : N - (i + 1) = m := by omega
      simp only [RS0, RS1, RS2, RS3, RS4, RS5, d1]
      refine (rnum_spec h2 hl2 (by omega)).mono ?_
      rw [hm, rlGo] at heq
      have hin2 := rn_in 4611686018427387904 st2
      rintro _ w3 ⟨rfl, h3, hf3⟩
      generalize (rn 4611686018427387904 st2).1 = x at heq hin2 ⊢
      generalize (rn 4611686018427387904 st2).2 = st3 at heq hin2 h3
      have hF3 : Fm (· = rb) w w3 := hf2.trans hf3 (fun _ _ e => e) (fun _ _ e => e)
      have hz3 := hF3.size
      have hrd : RdAt w2 rb st2.1 st2.2 := h2
      have hrbne : ∀ k, v.ownBlock = some k → k ≠ rb := by
        intro k hk e
        rcases ho2.2 with ⟨rfl, _⟩ | ⟨g, cap, cur, rfl, _, hg, _⟩
        · cases hk
        · have e1 : g = k := by simpa [Value.ownBlock] using hk
          rw [e1, e] at hg
          have hq : w2.heap[rb]? = _ := hrd
          rw [hq] at hg; cases hg
      have ho3 := own_keep ho2 hf3 (fun k _ _ hk e => hrbne k hk e)
      refine row_lit ho3 (bs47_1 _ _) rfl (by omega) hz3 ?_
      intro v4 w4 ho4 hf4
      have hrl := h.lt
      have h4 := h3.keep hf4 (fun e => by omega)
      have hF4 : Fm (· = rb) w w4 := hF3.trans hf4 (fun _ _ e => e) (fun y hy e => by omega)
      refine (berr_spec h4).mono ?_
      rintro _ w5 ⟨rfl, rfl⟩
      simp only [RS0, RS1, RS2, RS3, RS4, RS5, bne_dec]
      cases hz : decide (st3.2 = 0) with
      | false =>
        rw [hz, cond_false] at heq
        simp only [RS0, RS1, RS2, RS3, RS4, RS5]
        refine hjj _ _ ⟨v4, rfl, ?_⟩
        rw [heq]
        exact ⟨ho4, h4, hF4⟩
      | true =>
        rw [hz, cond_true] at heq
        simp only [RS0, RS1, RS2, RS3, RS4, RS5, e1]
        refine ⟨⟨i + 1, v4, L ++ [x], st3, rfl, by omega, by rw [List.length_append, hL]; rfl, ho4, h4, by omega, ?_, hF4⟩, by simp only [nth_1]; omega⟩
        rw [heq, hm1]
        simp
    · have hie : i = N := by omega
      subst hie
      have d1 : decide ((i : Int) < (i : Int)) = false := by simp
      rw [Nat.sub_self, rlGo] at heq
      simp only [List.append_nil] at heq
      simp only [RS0, RS1, RS2, RS3, RS4, RS5, d1]
      refine hjj _ _ ⟨v, rfl, ?_⟩
      rw [heq]
      exact ⟨ho2, h2, hf2⟩

/-- One more, and where it lies. -/
theorem app_fine {w : World} {base n bytes sz : Nat} {t e : TypeId} {v : Value} {xs : List Value} (E : ElemT Tryz.prog t e sz bytes) (hsz : 0 < sz) (h : w.ownsRow base e sz v n xs) {b : Nat} {cs : List Value} (hb : w.heap[b]? = some (.cells cs.toArray e)) (hcs : cs.length = sz) (h1 : ∀ u ∈ cs, u.oneCell' = true) (hn : (n + 1) * bytes ≤ 140737488355328) (h63 : n + 1 ≤ maxLen) (hbs : base ≤ w.heap.size) :
    ∃ v' w', (Builtin.append_ #[t, t] t #[v, .slice (some ⟨b, 0, none⟩) 1 1]).run Tryz.prog w = .ok v' w' ∧ w'.ownsRow base e sz v' (n + 1) (xs ++ cs) ∧ (∀ y, v'.ownBlock = some y → v.ownBlock = some y ∨ w.heap.size ≤ y) ∧ Fm (fun y => v.ownBlock = some y) w w' := by
  obtain ⟨v', w', hr, ho, hc⟩ := append_fine E hsz h t ⟨b, 0, none⟩ 1 1 (by omega) cs (by omega) (fun j u hj => by rw [add_none, Nat.zero_add, cell_at hb]; simpa using hj) h1 h63 hn hbs
  refine ⟨v', w', hr, ho, ?_⟩
  rcases hc with ⟨g, e1, e2, e3⟩ | ⟨g, e1, e2, e3⟩
  · exact ⟨fun y hy => .inl (by rw [e1, ← e2]; exact hy), e3.mono (fun y _ e => by rw [e]; exact e1)⟩
  · exact ⟨fun y hy => .inr (by rw [e1] at hy; cases hy; exact e2), e3.mono (fun _ _ e => e.elim)⟩


end Go.Proofs.YthbngnlmgplijaaGreatDoor
