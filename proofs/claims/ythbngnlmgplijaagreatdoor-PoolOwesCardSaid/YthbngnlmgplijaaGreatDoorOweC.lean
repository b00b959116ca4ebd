/- Laid for one claim by slim.py out of: RcBits RcPure RcMem RcEnc RcEnc2 RcRd RcOut RcDecS DiskPure AlOut AlKp CpsD. -/
import Derived.Test.YthbngnlmgplijaaGreatDoorOweB
namespace Go.Proofs.YthbngnlmgplijaaGreatDoor
open Go.Al Go.Proofs
set_option linter.unusedVariables false
set_option linter.unusedSimpArgs false
set_option linter.unusedSectionVars false
set_option maxRecDepth 100000

theorem E38w : ElemT Tryz.prog 123 5 1 1 := elemT_of Tryz.underlying123 (by kernel_rfl)
theorem bs38w (x : Int) (w : World) : (Instr.buildSlice 123 1 #[(0, .int .u8 x)]).run Tryz.prog w = .ok (.slice (some ⟨w.heap.size, 0, none⟩) 1 1) (w.alloc (.cells #[.int .u8 x] 5)) := by kernel_rfl
theorem bldR (s : Bs) (w : World) : (Instr.build 221 #[(0, stv s)]).run Tryz.prog w = .ok (.agg #[stv s, iv 0]) w := by kernel_rfl
theorem bldW (w : World) : (Instr.build 243 #[]).run Tryz.prog w = .ok (.agg #[.slice none 0 0]) w := by kernel_rfl

/-- A reader: in block r; the rest, and what was wrong. -/
def RdAt (w : World) (r : Nat) (s : Bs) (e : Int) : Prop := w.heap[r]? = some (.cells #[stv s, iv e] 221)
theorem RdAt.keep {S : Nat → Prop} {w w' : World} {r : Nat} {s : Bs} {e : Int} (h : RdAt w r s e) (hf : Fm S w w') (hs : ¬ S r) : RdAt w' r s e := hf.heap h hs
theorem RdAt.c0 {w : World} {r : Nat} {s : Bs} {e : Int} (h : RdAt w r s e) : w.cell? ⟨r, 0, none⟩ = some (stv s) := by rw [cell_at h]; rfl
theorem RdAt.c1 {w : World} {r : Nat} {s : Bs} {e : Int} (h : RdAt w r s e) : w.cell? ⟨r, 1, none⟩ = some (iv e) := by rw [cell_at h]; rfl
theorem RdAt.lt {w : World} {r : Nat} {s : Bs} {e : Int} (h : RdAt w r s e) : r < w.heap.size := lt_of_heap h

theorem bread_spec (w : World) (s : Bs) : Cl Tryz.prog 148 [stv s] w fun v w' => ∃ r, v = pv r ∧ w.heap.size ≤ r ∧ RdAt w' r s 0 ∧ Fm (fun _ => False) w w' := by
  refine c148 ?_; unfold T148
  refine RunS_ok (bldR s w) (New_any ?_)
  intro b w' hb hs hw hf
  exact ⟨b, rfl, by omega, hw, hf⟩
theorem bfail_spec {w : World} {r : Nat} {s : Bs} {e : Int} (h : RdAt w r s e) (x : Int) : Cl Tryz.prog 196 [pv r, iv x] w fun v w' => v = iv 0 ∧ RdAt w' r [] x ∧ Fm (· = r) w w' := by
  refine c196 ?_; unfold T196
  simp only [RS0, RS1, RS2, RS3, RS4, RS5, str_size, str_nil, str_inj]
  refine St_blk h (by simp) rfl ?_
  intro w1 h1 _ hf1
  refine St_blk h1 (by simp) rfl ?_
  intro w2 h2 _ hf2
  exact ⟨(by trivial), h2, hf1.trans hf2 (fun _ _ e => e) (fun _ _ e => e)⟩
theorem berr_spec {w : World} {r : Nat} {s : Bs} {e : Int} (h : RdAt w r s e) : Cl Tryz.prog 153 [pv r] w fun v w' => v = iv e ∧ w' = w := by
  refine c153 ?_; unfold T153
  simp only [RS0, RS1, RS2, RS3, RS4, RS5, h.c1, and_self]
theorem bleft_spec {w : World} {r : Nat} {s : Bs} {e : Int} (h : RdAt w r s e) : Cl Tryz.prog 197 [pv r] w fun v w' => v = iv s.length ∧ w' = w := by
  refine c197 ?_; unfold T197
  simp only [RS0, RS1, RS2, RS3, RS4, RS5, str_size, str_nil, str_inj, h.c0, and_self]
theorem bend_spec {w : World} {r : Nat} {s : Bs} {e : Int} (h : RdAt w r s e) : Cl Tryz.prog 154 [pv r] w fun v w' => v = iv (endE s e) ∧ w' = w := by
  refine c154 ?_; unfold T154
  refine (berr_spec h).mono ?_
  rintro _ w ⟨rfl, rfl⟩
  unfold endE
  by_cases he : e = 0
  · have e1 : (e == 0) = true := by simpa using he
    simp only [RS0, RS1, RS2, RS3, RS4, RS5, e1]
    refine (bleft_spec h).mono ?_
    rintro _ w ⟨rfl, rfl⟩
    have e2 : decide (e = 0) = true := by simpa using he
    by_cases hs : 0 < s.length
    · have e3 : decide ((0 : Int) < (s.length : Int)) = true := by rw [decide_eq_true_eq]; omega
      have e4 : decide (0 < s.length) = true := by simpa using hs
      simp only [RS0, RS1, RS2, RS3, RS4, RS5, e3, e2, e4, Bool.and_self, cond_true]
      exact ⟨(by trivial), (by trivial)⟩
    · have e3 : decide ((0 : Int) < (s.length : Int)) = false := by rw [decide_eq_false_iff_not]; omega
      have e4 : decide (0 < s.length) = false := by simpa using hs
      simp only [RS0, RS1, RS2, RS3, RS4, RS5, e3, e2, e4, Bool.and_false, cond_false]
      refine (berr_spec h).mono ?_
      rintro _ w ⟨rfl, rfl⟩
      exact ⟨(by trivial), (by trivial)⟩
  · have e1 : (e == 0) = false := by simpa using he
    have e2 : decide (e = 0) = false := by simpa using he
    simp only [RS0, RS1, RS2, RS3, RS4, RS5, e1, e2, Bool.false_and, cond_false]
    refine (berr_spec h).mono ?_
    rintro _ w ⟨rfl, rfl⟩
    exact ⟨(by trivial), (by trivial)⟩

theorem bnum_spec {w : World} {r : Nat} {s : Bs} {e : Int} (h : RdAt w r s e) (most : Int) (hs : s.length ≤ 9223372036854775807) (hm : most ≤ 9223372036854775807) :
    Cl Tryz.prog 150 [pv r, iv most] w fun v w' => v = iv (rdNum most s e).1 ∧ RdAt w' r (rdNum most s e).2.1 (rdNum most s e).2.2 ∧ Fm (· = r) w w' := by
  refine c150 ?_; unfold T150
  unfold rdNum
  by_cases he : e = 0
  · subst he
    simp only [RS0, RS1, RS2, RS3, RS4, RS5, h.c1, bne_self_eq_false, decide_true, cond_true]
    refine ⟨fun vs w2 => ∃ (k n : Nat), vs = [iv n, iv k] ∧ k ≤ 9 ∧ n < 2 ^ (7 * k) ∧ k ≤ s.length ∧ rdN most 9 0 0 s = rdN most (9 - k) k n (s.drop k) ∧ w2 = w, fun vs _ => (9 - nth vs 1).toNat, ⟨0, 0, rfl, by omega, by decide, by omega, rfl, rfl⟩, ?_⟩
    rintro _ w2 in_ ik ⟨k, n, hvs, hk, hn, hks, heq, rfl⟩
    cases hvs
    by_cases hlt : k < 9
    · have e1 : decide ((k : Int) < 9) = true := by rw [decide_eq_true_eq]; omega
      obtain ⟨f, hf⟩ : ∃ f, 9 - k = f + 1 := ⟨8 - k, by omega⟩
      rw [hf] at heq
      simp only [RS0, RS1, RS2, RS3, RS4, RS5, str_size, str_nil, str_inj, e1, h.c0]
      by_cases hsl : k < s.length
      · have e2 : decide ((s.length : Int) ≤ (k : Int)) = false := by rw [decide_eq_false_iff_not]; omega
        have hb : s[k]? = some s[k] := List.getElem?_eq_getElem hsl
        rw [List.drop_eq_getElem_cons hsl, rdN] at heq
        generalize s[k] = b at hb heq
        have hb256 : b.toNat < 256 := b.toNat_lt
        have hk63 : (2 : Nat) ^ (7 * k) ≤ 2 ^ 56 := Nat.pow_le_pow_right (by decide) (by omega)
        have hmod : b.toNat % 128 < 128 := Nat.mod_lt _ (by decide)
        have hpr : b.toNat % 128 * 2 ^ (7 * k) ≤ 127 * 2 ^ 56 := Nat.mul_le_mul (by omega) hk63
        have e3 : andI .u8 (b.toNat : Int) 127 = ((b.toNat % 128 : Nat) : Int) := by
          have := and_u8 b.toNat 127 hb256 (by decide)
          rw [and127] at this; exact this
        have e4 : cvI .i64 (.int .u8 ((b.toNat % 128 : Nat) : Int)) = some (iv ((b.toNat % 128 : Nat) : Int)) := by
          show some (iv (IntKind.i64.wrap _)) = _
          rw [wrap_nat (by omega)]
        have e5 : IntKind.i64.wrap (7 * (k : Int)) = ((7 * k : Nat) : Int) := by rw [wrap_id] <;> omega
        have e6 := shl_nat (b.toNat % 128) (7 * k) (by omega) (by omega) (TypeDesc.int IntKind.i64) .i64
        have e7 : orI .i64 (n : Int) ((b.toNat % 128 * 2 ^ (7 * k) : Nat) : Int) = ((n + b.toNat % 128 * 2 ^ (7 * k) : Nat) : Int) := by
          rw [or_i64 _ _ (by omega) (by omega), or_add hn]
        have e8 : 128 ^ k = 2 ^ (7 * k) := by rw [Nat.pow_mul]
        rw [e8] at heq
        have hn' : n + b.toNat % 128 * 2 ^ (7 * k) < 2 ^ (7 * (k + 1)) := by
          have h1 : 2 ^ (7 * (k + 1)) = 128 * 2 ^ (7 * k) := by rw [show 7 * (k + 1) = 7 * k + 7 by omega, Nat.pow_add]; omega
          have h2 : b.toNat % 128 * 2 ^ (7 * k) ≤ 127 * 2 ^ (7 * k) := Nat.mul_le_mul_right _ (by omega)
          omega
        generalize n + b.toNat % 128 * 2 ^ (7 * k) = n' at e7 heq hn'
        have hn62 : n' < 2 ^ 63 := Nat.lt_of_lt_of_le hn' (Nat.pow_le_pow_right (by decide) (by omega))
        simp only [RS0, RS1, RS2, RS3, RS4, RS5, str_size, str_nil, str_inj, e2, ixS_str hb, binV_and, e3, e4, e5, e6, binV_or, e7]
        have ebz : ((b.toNat : Int) == 0) = decide (b = 0) := by
          rw [beq_dec, decide_eq_decide]
          constructor
          · intro h; apply UInt8.toNat.inj; simp; omega
          · rintro rfl; rfl
        have cont : decide (b = 0 ∧ 0 < k) = false → IfB (.bool (decide ((128 : Int) ≤ (b.toNat : Int))))
            (Pu (binV (TypeDesc.int IntKind.i64) .add (iv (k : Nat)) (Value.int IntKind.i64 1)) fun t73_107 =>
              (∃ (k_1 n_1 : Nat), [iv (n' : Nat), t73_107] = [iv n_1, iv k_1] ∧ k_1 ≤ 9 ∧ n_1 < 2 ^ (7 * k_1) ∧ k_1 ≤ s.length ∧ rdN most 9 0 0 s = rdN most (9 - k_1) k_1 n_1 (s.drop k_1) ∧ w2 = w2) ∧ (9 - nth [iv (n' : Nat), t73_107] 1).toNat < (9 - nth [iv (n : Nat), iv (k : Nat)] 1).toNat)
            (Pu (foldV0 max2V [iv most, (Value.int IntKind.i64 0)]) fun t58_108 =>
            Pu (binV (TypeDesc.int IntKind.i64) .gtr (iv (n' : Nat)) t58_108) fun t59_109 =>
            IfB t59_109
              (Cl Tryz.prog 196 [pv r, (Value.int IntKind.i64 11)] w2 fun v w' => v = iv (rdN most 9 0 0 s).1 ∧ RdAt w' r (rdN most 9 0 0 s).2.1 (rdN most 9 0 0 s).2.2 ∧ Fm (· = r) w2 w')
              (Pu (nilV (pv r)) fun t64_112 =>
              Pu (faV 0 t64_112) fun t65_113 =>
              Ld w2 t65_113 fun t66_114 w_115 =>
              Pu (binV (TypeDesc.int IntKind.i64) .add (iv (k : Nat)) (Value.int IntKind.i64 1)) fun t68_116 =>
              Pu (slS t66_114 (some t68_116) none) fun t69_117 =>
              Pu (nilV (pv r)) fun t70_118 =>
              Pu (faV 0 t70_118) fun t71_119 =>
              St 1 w_115 t71_119 t69_117 fun u_120 w_121 =>
              iv (n' : Nat) = iv (rdN most 9 0 0 s).1 ∧ RdAt w_121 r (rdN most 9 0 0 s).2.1 (rdN most 9 0 0 s).2.2 ∧ Fm (· = r) w2 w_121)) := by
          intro hz
          simp only [hz, cond_false] at heq
          have e9 : IntKind.i64.wrap ((k : Int) + 1) = ((k + 1 : Nat) : Int) := by rw [wrap_id] <;> omega
          by_cases hbig : 128 ≤ b.toNat
          · have z1 : decide ((128 : Int) ≤ (b.toNat : Int)) = true := by rw [decide_eq_true_eq]; omega
            have z2 : decide (128 ≤ b.toNat) = true := by simpa using hbig
            simp only [z2, cond_true] at heq
            simp only [RS0, RS1, RS2, RS3, RS4, RS5, z1, e9]
            exact ⟨⟨k + 1, n', rfl, by omega, hn', by omega, by rw [heq, show 9 - (k + 1) = f by omega], trivial⟩, by simp only [nth_1]; omega⟩
          · have z1 : decide ((128 : Int) ≤ (b.toNat : Int)) = false := by rw [decide_eq_false_iff_not]; omega
            have z2 : decide (128 ≤ b.toNat) = false := by simpa using hbig
            have z3 : max2V (iv most) (iv 0) = some (iv (max most 0)) := by
              show some (iv (if (0 : Int) > most then 0 else most)) = _
              congr 2
              split <;> omega
            simp only [z2, cond_false] at heq
            simp only [RS0, RS1, RS2, RS3, RS4, RS5, z1, foldV0, foldV, z3, Option.bind_some]
            by_cases hmx : max most 0 < (n' : Int)
            · have z4 : decide (max most 0 < (n' : Int)) = true := by simpa using hmx
              simp only [z4, cond_true] at heq
              simp only [RS0, RS1, RS2, RS3, RS4, RS5, z4]
              refine (bfail_spec h 11).mono ?_
              rintro _ w3 ⟨rfl, h3, hf3⟩
              rw [heq]
              exact ⟨(by trivial), h3, hf3⟩
            · have z4 : decide (max most 0 < (n' : Int)) = false := by simpa using hmx
              simp only [z4, cond_false] at heq
              have z5 := slS_lo (l := s) (i := k + 1) (by omega) .i64
              simp only [RS0, RS1, RS2, RS3, RS4, RS5, z4, h.c0, e9, z5]
              refine St_blk h (by simp) rfl ?_
              intro w3 h3 _ hf3
              rw [heq]
              exact ⟨rfl, h3, hf3⟩
        rw [ebz]
        by_cases hz : b = 0
        · have z1 : decide (b = 0) = true := by simpa using hz
          by_cases hkp : 0 < k
          · have z2 : decide ((0 : Int) < (k : Int)) = true := by rw [decide_eq_true_eq]; omega
            have z3 : decide (b = 0 ∧ 0 < k) = true := by simp [hz, hkp]
            simp only [z3, cond_true] at heq
            simp only [RS0, RS1, RS2, RS3, RS4, RS5, z1, z2]
            refine (bfail_spec h 11).mono ?_
            rintro _ w3 ⟨rfl, h3, hf3⟩
            rw [heq]
            exact ⟨(by trivial), h3, hf3⟩
          · have z2 : decide ((0 : Int) < (k : Int)) = false := by rw [decide_eq_false_iff_not]; omega
            have c := cont (by simp [hkp])
            simp only [RS0, RS1, RS2, RS3, RS4, RS5] at c
            simp only [RS0, RS1, RS2, RS3, RS4, RS5, z1, z2]
            exact c
        · have z1 : decide (b = 0) = false := by simpa using hz
          have c := cont (by simp [hz])
          simp only [RS0, RS1, RS2, RS3, RS4, RS5] at c
          simp only [RS0, RS1, RS2, RS3, RS4, RS5, z1]
          exact c
      · have e2 : decide ((s.length : Int) ≤ (k : Int)) = true := by rw [decide_eq_true_eq]; omega
        rw [List.drop_eq_nil_of_le (by omega), rdN] at heq
        simp only [RS0, RS1, RS2, RS3, RS4, RS5, e2]
        refine (bfail_spec h 10).mono ?_
        rintro _ w3 ⟨rfl, h3, hf3⟩
        rw [heq]
        exact ⟨(by trivial), h3, hf3⟩
    · have hke : k = 9 := by omega
      subst hke
      have e1 : decide (((9 : Nat) : Int) < 9) = false := rfl
      rw [Nat.sub_self, rdN] at heq
      simp only [RS0, RS1, RS2, RS3, RS4, RS5, e1]
      refine (bfail_spec h 11).mono ?_
      rintro _ w3 ⟨rfl, h3, hf3⟩
      rw [heq]
      exact ⟨(by trivial), h3, hf3⟩
  · have e1 : (e != 0) = true := by rw [bne_dec]; simp [he]
    have e2 : decide (e = 0) = false := by simpa using he
    simp only [RS0, RS1, RS2, RS3, RS4, RS5, h.c1, e1, e2, cond_false]
    exact ⟨(by trivial), h, Fm.refl _ _⟩

/-- What a writer's row is. -/
def ownNow (w : World) (r y : Nat) : Prop := ∃ v, w.heap[r]? = some (.cells #[v] 243) ∧ v.ownBlock = some y
/-- What a writer may turn: its block and its row. -/
def wrM (w : World) (r y : Nat) : Prop := y = r ∨ ownNow w r y
/-- A writer: in block r; what it has laid, in a row of the call's own. -/
structure WrAt (w : World) (r : Nat) (B : Bs) : Prop where
  ex : ∃ v, w.heap[r]? = some (.cells #[v] 243) ∧ w.ownsRow 0 5 1 v B.length (bc B)
theorem WrAt.keep {S : Nat → Prop} {w w' : World} {r : Nat} {B : Bs} (h : WrAt w r B) (hf : Fm S w w') (hs : ∀ y, wrM w r y → ¬ S y) : WrAt w' r B ∧ ∀ y, wrM w' r y ↔ wrM w r y := by
  obtain ⟨v, hv, ho⟩ := h.ex
  have hr := hf.heap hv (hs r (.inl rfl))
  refine ⟨⟨v, hr, own_keep ho hf fun k _ _ hk => hs k (.inr ⟨v, hv, hk⟩)⟩, fun y => ?_⟩
  unfold wrM ownNow
  rw [hr, hv]
theorem WrAt.lt {w : World} {r : Nat} {B : Bs} (h : WrAt w r B) : ∀ y, wrM w r y → y < w.heap.size := by
  obtain ⟨v, hv, ho⟩ := h.ex
  rintro y (rfl | ⟨v', hv', hy⟩)
  · exact lt_of_heap hv
  · rw [hv] at hv'; cases hv'; exact (ho.lt y hy).2
theorem bnew_spec (w : World) : Cl Tryz.prog 199 [] w fun v w' => v = pv w.heap.size ∧ WrAt w' w.heap.size [] ∧ (∀ y, wrM w' w.heap.size y → y = w.heap.size) ∧ Fm (fun _ => False) w w' := by
  refine c199 ?_; unfold T199
  refine RunS_ok (bldW w) (New_any ?_)
  intro b w' hb hs hw hf
  subst hb
  refine ⟨rfl, ⟨_, hw, World.ownsRow_nil _ _ _ _⟩, ?_, hf⟩
  rintro y (h | ⟨v, hv, hy⟩)
  · exact h
  · rw [hw] at hv; cases hv; cases hy
theorem bbytes_spec {w : World} {r : Nat} {B : Bs} (h : WrAt w r B) : Cl Tryz.prog 203 [pv r] w fun v w' => v = stv B ∧ w' = w := by
  obtain ⟨v, hv, ho⟩ := h.ex
  refine c203 ?_; unfold T203
  have c0 : w.cell? ⟨r, 0, none⟩ = some v := by rw [cell_at hv]; rfl
  simp only [RS0, RS1, RS2, RS3, RS4, RS5, c0]
  exact RunS_ok (conv_own B38 ho) ⟨rfl, rfl⟩
/-- A byte is laid. -/
theorem wput {w : World} {r : Nat} {B : Bs} (h : WrAt w r B) (hl : B.length ≤ 1099511627776) (x : UInt8) {k : KV} (hk : ∀ w', WrAt w' r (B ++ [x]) → Fm (wrM w r) w w' → (∀ y, wrM w' r y → wrM w r y ∨ w.heap.size ≤ y) → k undef w') :
    Pu (nilV (pv r)) fun t22_71 =>
      Pu (faV 0 t22_71) fun t23_72 =>
      Ld w t23_72 fun t24_73 w_74 =>
      RunS Tryz.prog (Instr.buildSlice 123 1 #[(0, .int .u8 x.toNat)]) w_74 fun t28_77 w_78 =>
      RunS Tryz.prog (Builtin.append_ #[123, 123] 123 #[t24_73, t28_77]) w_78 fun t29_79 w_80 =>
      Pu (nilV (pv r)) fun t30_81 =>
      Pu (faV 0 t30_81) fun t31_82 =>
      St 1 w_80 t31_82 t29_79 k := by
  obtain ⟨v, hv, ho⟩ := h.ex
  have c0 : w.cell? ⟨r, 0, none⟩ = some v := by rw [cell_at hv]; rfl
  have hrlt := lt_of_heap hv
  simp only [RS0, RS1, RS2, RS3, RS4, RS5, c0]
  refine append_elF E38w (by omega) 123 (cs := [.int .u8 x.toNat]) rfl (bs38w _ _) (by intro u hu; simp at hu; subst hu; rfl) ho (by unfold maxLen; omega) (by omega) (Nat.zero_le _) ?_
  intro v' w1 ho1 hcase
  try simp only [RS0, RS1, RS2, RS3, RS4, RS5]
  have hvr : ∀ g, v.ownBlock = some g → g ≠ r := by
    rintro g hg rfl
    rcases ho.2 with ⟨rfl, _⟩ | ⟨g', cap, cur, rfl, _, hgg, _⟩
    · cases hg
    · have : g' = g := by simpa [Value.ownBlock] using hg
      subst this
      rw [hv] at hgg; cases hgg
  obtain ⟨S, hfS, hS1, hS2⟩ : ∃ S : Nat → Prop, Fm S w w1 ∧ (∀ y, S y → v.ownBlock = some y) ∧ (∀ g, v'.ownBlock = some g → v.ownBlock = some g ∨ w.heap.size ≤ g) := by
    rcases hcase with ⟨g, k1, k2, k3⟩ | ⟨g, k1, k2, k3⟩
    · exact ⟨_, k3, fun y hy => by rw [hy]; exact k1, fun g' hg' => by rw [k2] at hg'; cases hg'; exact .inl k1⟩
    · exact ⟨_, k3, fun _ e => e.elim, fun g' hg' => by rw [k1] at hg'; cases hg'; exact .inr k2⟩
  have hv1 := hfS.heap hv (fun e => hvr r (hS1 r e) rfl)
  refine St_blk hv1 (by simp) (own_one ho1) ?_
  intro w2 hw2 hs2 hf2
  refine hk w2 ⟨v', hw2, ?_⟩ (hfS.trans hf2 (fun y _ e => .inr ⟨v, hv, hS1 y e⟩) (fun _ _ e => .inl e)) ?_
  · have := own_keep ho1 hf2 (fun g _ _ hg e => by
      have e' : g = r := e
      rw [e'] at hg
      rcases hS2 r hg with h1 | h1
      · exact hvr r h1 rfl
      · omega)
    rw [List.length_append, bc_append]; exact this
  · rintro y (h1 | ⟨v2, hv2, hy⟩)
    · exact .inl (.inl h1)
    · replace hw2 : w2.heap[r]? = some (.cells #[v'] 243) := hw2
      rw [hw2] at hv2; cases hv2
      rcases hS2 y hy with h1 | h1
      · exact .inl (.inr ⟨v, hv, h1⟩)
      · exact .inr h1
theorem u8_wrap_nat (c : Nat) : IntKind.u8.wrap (c : Int) = ((c % 256 : Nat) : Int) := by
  unfold IntKind.wrap; simp [IntKind.bits, IntKind.signed]
def encI (n : Int) : Bs := encN (max n 0).toNat
set_option maxHeartbeats 1000000 in
theorem wnum_spec {w : World} {r : Nat} {B : Bs} (h : WrAt w r B) {v : Value} {ns : List Int} (hns : CellsAt w v ns.length 1 (ns.map iv)) (hblk : ns ≠ [] → ∀ g, blockOf v = some g → ¬ wrM w r g) (hin : ∀ n ∈ ns, n ≤ 9223372036854775807)
    (hl : B.length + 9 * ns.length ≤ 1000000000000) :
    Cl Tryz.prog 200 [pv r, v] w fun u w' => WrAt w' r (B ++ ns.flatMap encI) ∧ Fm (wrM w r) w w' ∧ ∀ y, wrM w' r y → wrM w r y ∨ w.heap.size ≤ y := by
  refine c200 ?_; unfold T200
  simp only [RS0, RS1, RS2, RS3, RS4, RS5, hns.lenV]
  refine ⟨fun vs w2 => ∃ k : Nat, vs = [iv k] ∧ k ≤ ns.length ∧ WrAt w2 r (B ++ (ns.take k).flatMap encI) ∧ Fm (wrM w r) w w2 ∧ (∀ y, wrM w2 r y → wrM w r y ∨ w.heap.size ≤ y), fun vs _ => (ns.length - nth vs 0).toNat, ⟨0, rfl, by omega, by simpa using h, Fm.refl _ _, fun _ h => .inl h⟩, ?_⟩
  rintro _ w2 ik ⟨k, hvs, hk, h2, hf2, hm2⟩
  cases hvs
  have elen : ∀ n ∈ ns, (encI n).length ≤ 9 := fun n hn => (encN_le (by have := hin n hn; omega)).2
  have hfl : ∀ l : List Int, (∀ n ∈ l, (encI n).length ≤ 9) → (l.flatMap encI).length ≤ 9 * l.length := by
    intro l
    induction l with
    | nil => intro _; simp
    | cons n l ih =>
      intro hl
      have := ih (fun m hm => hl m (by simp [hm]))
      have := hl n (by simp)
      simp only [List.flatMap_cons, List.length_append, List.length_cons]; omega
  by_cases hlt : k < ns.length
  · have e1 : decide ((k : Int) < (ns.length : Int)) = true := by rw [decide_eq_true_eq]; omega
    have hx : ns[k]? = some ns[k] := List.getElem?_eq_getElem hlt
    have hmem := List.getElem_mem hlt
    have hxin := hin _ hmem
    have hel := elen _ hmem
    have hpre := hfl (ns.take k) (fun n hn => elen n (List.mem_of_mem_take hn))
    rw [List.length_take, Nat.min_eq_left hk] at hpre
    generalize ns[k] = n at hx hxin hel
    obtain ⟨ad, hix, _, hc⟩ := (hns.keepAny hf2 (fun hne g hg => hblk (fun e => hne (by rw [e]; rfl)) g hg)).at1 (i := k) (x := iv n) (by rw [List.getElem?_map, hx]; rfl) .i64
    have z3 : max2V (iv n) (iv 0) = some (iv (max n 0)) := by
      show some (iv (if (0 : Int) > n then 0 else n)) = _
      congr 2
      split <;> omega
    simp only [RS0, RS1, RS2, RS3, RS4, RS5, e1, hix, hc, foldV0, foldV, z3, Option.bind_some]
    obtain ⟨c0, hc0⟩ := Int.eq_ofNat_of_zero_le (show 0 ≤ max n 0 by omega)
    have henc : encI n = encN c0 := by unfold encI; rw [hc0]; rfl
    rw [hc0]
    have hpl : (B ++ (ns.take k).flatMap encI).length ≤ 999999999991 := by rw [List.length_append]; omega
    rw [henc] at hel
    generalize hP : B ++ (ns.take k).flatMap encI = P at h2 hpl
    refine ⟨fun vs w3 => ∃ (c : Nat) (Q : Bs), vs = [iv c] ∧ c ≤ 9223372036854775807 ∧ WrAt w3 r Q ∧ Q ++ encN c = P ++ encN c0 ∧ Fm (wrM w r) w w3 ∧ (∀ y, wrM w3 r y → wrM w r y ∨ w.heap.size ≤ y), fun vs _ => (nth vs 0).toNat, ⟨c0, P, rfl, by omega, h2, rfl, hf2, hm2⟩, ?_⟩
    rintro _ w3 ic ⟨c, Q, hvs, hcm, h3, hQ, hf3, hm3⟩
    cases hvs
    have hQl : Q.length ≤ 1000000000000 := by
      have := congrArg List.length hQ
      rw [List.length_append, List.length_append] at this
      omega
    by_cases hbig : 127 < c
    · have e2 : decide ((127 : Int) < (c : Int)) = true := by rw [decide_eq_true_eq]; omega
      have e3 : cvI .u8 (iv c) = some (.int .u8 ((c % 256 : Nat) : Int)) := by rw [← u8_wrap_nat]; rfl
      have e4 : orI .u8 ((c % 256 : Nat) : Int) 128 = (((UInt8.ofNat (c % 128 + 128)).toNat : Nat) : Int) := by
        have := or_u8 (c % 256) 128 (by omega) (by decide)
        rw [or128 (by omega), Nat.mod_mod_of_dvd c (by decide)] at this
        rw [u8_ofNat (by omega)]; exact this
      have e5 := shr_nat c 7 (by omega) (TypeDesc.int IntKind.i64) .u64
      simp only [RS0, RS1, RS2, RS3, RS4, RS5, e2, e3, binV_or, e4]
      have key := wput h3 (by omega) (UInt8.ofNat (c % 128 + 128)) (k := fun u_83 w_84 => Pu (binV (TypeDesc.int IntKind.i64) .shr (iv c) (Value.int IntKind.u64 7)) fun t19_85 =>
        (∃ (c : Nat) (Q : Bs), [t19_85] = [iv c] ∧ c ≤ 9223372036854775807 ∧ WrAt w_84 r Q ∧ Q ++ encN c = P ++ encN c0 ∧ Fm (wrM w r) w w_84 ∧ (∀ y, wrM w_84 r y → wrM w r y ∨ w.heap.size ≤ y)) ∧ (nth [t19_85] 0).toNat < (nth [iv (c : Nat)] 0).toNat) (by
          intro w4 h4 hf4 hm4
          have hF4 : Fm (wrM w r) w w4 := hf3.trans hf4 (fun _ _ e => e) (fun y hy e => by rcases hm3 y e with h | h; exact h; omega)
          have hM4 : ∀ y, wrM w4 r y → wrM w r y ∨ w.heap.size ≤ y := fun y hy => by
            rcases hm4 y hy with h | h
            · exact hm3 y h
            · have := hf3.size; exact .inr (by omega)
          have e5' : binV (TypeDesc.int IntKind.i64) .shr (iv c) (Value.int IntKind.u64 7) = some (iv ((c / 2 ^ 7 : Nat) : Int)) := e5
          rw [e5', Pu_some]
          refine ⟨⟨c / 2 ^ 7, _, rfl, by omega, h4, ?_, hF4, hM4⟩, by simp only [nth_0]; omega⟩
          rw [← hQ, encN_big hbig, List.append_assoc]; rfl)
      simp only [RS0, RS1, RS2, RS3, RS4, RS5] at key
      exact key
    · have e2 : decide ((127 : Int) < (c : Int)) = false := by rw [decide_eq_false_iff_not]; omega
      have e3 : cvI .u8 (iv c) = some (.int .u8 (((UInt8.ofNat c).toNat : Nat) : Int)) := by
        rw [u8_ofNat (by omega)]
        have := u8_wrap_nat c
        rw [Nat.mod_eq_of_lt (by omega)] at this
        show some (Value.int .u8 (IntKind.u8.wrap (c : Int))) = _
        rw [this]
      have e6 : IntKind.i64.wrap ((k : Int) + 1) = ((k + 1 : Nat) : Int) := by rw [wrap_id] <;> have := hns.lt <;> unfold maxLen at this <;> omega
      simp only [RS0, RS1, RS2, RS3, RS4, RS5, e2, e3]
      have key := wput h3 (by omega) (UInt8.ofNat c) (k := fun u_97 w_98 => Pu (binV (TypeDesc.int IntKind.i64) .add (iv (k : Nat)) (Value.int IntKind.i64 1)) fun t43_99 =>
        (∃ k : Nat, [t43_99] = [iv k] ∧ k ≤ ns.length ∧ WrAt w_98 r (B ++ (ns.take k).flatMap encI) ∧ Fm (wrM w r) w w_98 ∧ (∀ y, wrM w_98 r y → wrM w r y ∨ w.heap.size ≤ y)) ∧ (ns.length - nth [t43_99] 0).toNat < (ns.length - nth [iv (k : Nat)] 0).toNat) (by
          intro w4 h4 hf4 hm4
          have hF4 : Fm (wrM w r) w w4 := hf3.trans hf4 (fun _ _ e => e) (fun y hy e => by rcases hm3 y e with h | h; exact h; omega)
          have hM4 : ∀ y, wrM w4 r y → wrM w r y ∨ w.heap.size ≤ y := fun y hy => by
            rcases hm4 y hy with h | h
            · exact hm3 y h
            · have := hf3.size; exact .inr (by omega)
          rw [binV_add, Pu_some, e6]
          refine ⟨⟨k + 1, rfl, by omega, ?_, hF4, hM4⟩, by simp only [nth_0]; omega⟩
          have : B ++ (ns.take (k + 1)).flatMap encI = Q ++ [UInt8.ofNat c] := by
            rw [List.take_add_one, hx, List.flatMap_append, ← List.append_assoc, hP]
            show P ++ ([n].flatMap encI) = _
            rw [List.flatMap_cons, List.flatMap_nil, List.append_nil, henc, ← hQ, encN_small (by omega)]
          rw [this]; exact h4)
      simp only [RS0, RS1, RS2, RS3, RS4, RS5] at key
      exact key
  · have hke : k = ns.length := by omega
    subst hke
    have e1 : decide (((ns.length : Nat) : Int) < (ns.length : Int)) = false := by simp
    rw [List.take_length] at h2
    simp only [RS0, RS1, RS2, RS3, RS4, RS5, e1]
    exact ⟨h2, hf2, hm2⟩

end Go.Proofs.YthbngnlmgplijaaGreatDoor

namespace Go.Proofs.YthbngnlmgplijaaGreatDoor
open Go.Al Go.Proofs
set_option linter.unusedVariables false
set_option linter.unusedSimpArgs false
set_option linter.unusedSectionVars false
set_option maxRecDepth 100000

structure Rc where
  lsn : Int
  prev : Int
  next : Int
  kind : Int
  xid : Int
  page : Int
  slot : Int
  old : Int
  new : Int
  redo : Int
  data : Bs
  slots : List Int
  more : List Int
  imgs : List (Int × Pg)
  pages : List (Int × Int)
  txns : List (Int × Int)
  deriving DecidableEq
/-! ### Laid -/
def numsB (l : List Int) : Bs := l.flatMap encI
def txtB (s : Bs) : Bs := encI s.length ++ s
def listB (l : List Int) : Bs := encI l.length ++ numsB l
def trimZ (s : Bs) : Bs := (s.reverse.dropWhile (· == 0)).reverse
def imgB (m : Int × Pg) : Bs := encI m.1 ++ txtB (trimZ (pEnc m.2).1)
def prB (p : Int × Int) : Bs := encI p.1 ++ encI p.2
def headL (r : Rc) : List Int := [r.lsn, r.prev, r.next, r.kind, r.xid, r.page, r.slot, r.old, r.new, r.redo]
def rBody (r : Rc) : Bs := numsB (headL r) ++ txtB r.data ++ listB r.slots ++ listB r.more ++ encI r.imgs.length ++ r.imgs.flatMap imgB ++ encI r.pages.length ++ r.pages.flatMap prB ++ encI r.txns.length ++ r.txns.flatMap prB
def prs (l : List (Int × Int)) : List Int := l.flatMap fun p => [p.1, p.2]
def rNums (r : Rc) : List Int := [r.lsn, r.prev, r.next, r.redo, r.xid, r.page, r.slot, r.old, r.new] ++ r.slots ++ r.more ++ r.imgs.map (·.1) ++ prs r.pages ++ prs r.txns
def badN (n : Int) : Bool := decide (n < 0) || decide (4611686018427387904 < n)
/-- The first page that cannot be laid. -/
def imgErr : List (Int × Pg) → Int
  | [] => 0
  | m :: l => bif decide (pErr m.2 = 0) then imgErr l else pErr m.2
def rInner (r : Rc) : Bs × Int := bif decide (imgErr r.imgs = 0) then (bif decide (65535 < (rBody r).length) then ([], 3) else (rBody r, 0)) else ([], imgErr r.imgs)
def longR (r : Rc) : Bool := decide (512 < r.data.length) || decide (255 < r.slots.length) || decide (255 < r.more.length) || decide (4 < r.imgs.length) || decide (8192 < r.pages.length) || decide (1024 < r.txns.length)
def rCheck (r : Rc) : Bs × Int :=
  bif decide (r.kind < 1) || decide (13 < r.kind) then ([], 41)
  else bif decide (r.lsn < 1) || (rNums r).any badN then ([], 4)
  else bif longR r then ([], 3) else rInner r
def rEnc (r : Rc) : Bs × Int := bif decide ((rCheck r).2 = 0) then (beN 4 (rCheck r).1.length ++ beN 4 (crc (rCheck r).1) ++ (rCheck r).1, 0) else ([], (rCheck r).2)

/-! ### Read -/
abbrev St2 := Bs × Int
def rn (most : Int) (st : St2) : Int × St2 := rdNum most st.1 st.2
def rt (most : Int) (st : St2) : Bs × St2 :=
  bif decide ((rn most st).2.2 = 0) then (bif decide (((rn most st).2.1.length : Int) < (rn most st).1) then ([], ([], 10)) else ((rn most st).2.1.take (rn most st).1.toNat, ((rn most st).2.1.drop (rn most st).1.toNat, 0))) else ([], (rn most st).2)
def rlGo : Nat → St2 → List Int × St2
  | 0, st => ([], st)
  | n + 1, st => bif decide ((rn 4611686018427387904 st).2.2 = 0) then ((rn 4611686018427387904 st).1 :: (rlGo n (rn 4611686018427387904 st).2).1, (rlGo n (rn 4611686018427387904 st).2).2) else ([(rn 4611686018427387904 st).1], (rn 4611686018427387904 st).2)
def rl (most : Int) (st : St2) : List Int × St2 := rlGo (rn most st).1.toNat (rn most st).2
def padZ (t : Bs) : Bs := t ++ zeros (512 - t.length)
def riGo : Nat → St2 → Option (List (Int × Pg) × St2)
  | 0, st => some ([], st)
  | n + 1, st => bif decide ((pDec (padZ (rt 512 (rn 4611686018427387904 st).2).1)).2 = 0) && decide ((rt 512 (rn 4611686018427387904 st).2).2.2 = 0) then (riGo n (rt 512 (rn 4611686018427387904 st).2).2).map fun r => (((rn 4611686018427387904 st).1, (pDec (padZ (rt 512 (rn 4611686018427387904 st).2).1)).1) :: r.1, r.2) else none
def rpGo : Nat → St2 → Option (List (Int × Int) × St2)
  | 0, st => some ([], st)
  | n + 1, st => bif decide (st.2 = 0) then (rpGo n (rn 4611686018427387904 (rn 4611686018427387904 st).2).2).map fun r => (((rn 4611686018427387904 st).1, (rn 4611686018427387904 (rn 4611686018427387904 st).2).1) :: r.1, r.2) else none
def ten (s : Bs) : List Int × St2 :=
  let a0 := rn 4611686018427387904 (s, 0)
  let a1 := rn 4611686018427387904 a0.2
  let a2 := rn 4611686018427387904 a1.2
  let a3 := rn 13 a2.2
  let a4 := rn 4611686018427387904 a3.2
  let a5 := rn 4611686018427387904 a4.2
  let a6 := rn 4611686018427387904 a5.2
  let a7 := rn 4611686018427387904 a6.2
  let a8 := rn 4611686018427387904 a7.2
  let a9 := rn 4611686018427387904 a8.2
  ([a0.1, a1.1, a2.1, a3.1, a4.1, a5.1, a6.1, a7.1, a8.1, a9.1], a9.2)
def gI (l : List Int) (i : Nat) : Int := l.getD i 0
def tailP (a : List Int) (st : St2) : Option Rc :=
  let t := rt 512 st
  let sl := rl 255 t.2
  let mo := rl 255 sl.2
  let ni := rn 4 mo.2
  (riGo ni.1.toNat ni.2).bind fun im =>
  (rpGo (rn 8192 im.2).1.toNat (rn 8192 im.2).2).bind fun pg =>
  (rpGo (rn 1024 pg.2).1.toNat (rn 1024 pg.2).2).bind fun tx =>
  bif decide (endE tx.2.1 tx.2.2 = 0) then some ⟨gI a 0, gI a 1, gI a 2, gI a 3, gI a 4, gI a 5, gI a 6, gI a 7, gI a 8, gI a 9, t.1, sl.1, mo.1, im.1, pg.1, tx.1⟩ else none
def outerP (s : Bs) : Option Rc := tailP (ten s).1 (ten s).2
/-- What bytes begin with: the record, how many bytes, what is wrong. -/
def rDec (d : Bs) : Option Rc × Nat × Int :=
  bif decide (d.length < 8) then (none, 0, 40)
  else bif decide (ofN (d.take 4) = 0) || decide (65535 < ofN (d.take 4)) then (none, 0, 41)
  else bif decide (d.length < 8 + ofN (d.take 4)) then (none, 0, 40)
  else bif !decide (ofN ((d.drop 4).take 4) = crc ((d.drop 8).take (ofN (d.take 4)))) then (none, 0, 30)
  else match outerP ((d.drop 8).take (ofN (d.take 4))) with
    | none => (none, 0, 41)
    | some x => bif decide ((rCheck x).2 = 0) && decide ((rCheck x).1 = (d.drop 8).take (ofN (d.take 4))) then (some x, 8 + ofN (d.take 4), 0) else (none, 0, 41)

/-! ### What is laid is read -/
def okN (n : Int) : Prop := 0 ≤ n ∧ n ≤ 4611686018427387904
theorem encI_nat (n : Nat) : encI n = encN n := by
  unfold encI; rw [show (max (n : Int) 0).toNat = n by omega]
theorem rn_enc {n most : Int} (h0 : 0 ≤ n) (h1 : n ≤ most) (hm : most ≤ 4611686018427387904) (t : Bs) : rn most (encI n ++ t, 0) = (n, (t, 0)) := by
  obtain ⟨k, rfl⟩ := Int.eq_ofNat_of_zero_le h0
  unfold rn rdNum
  rw [decide_eq_true rfl, cond_true, encI_nat]
  have := rdN_enc most 9 0 k 0 t (by omega) (by omega) (by omega) (by simp only [Nat.pow_zero, Nat.mul_one, Nat.zero_add]; omega)
  simp only [Nat.pow_zero, Nat.mul_one, Nat.zero_add] at this
  exact this
theorem rt_enc {s : Bs} {most : Int} (h1 : (s.length : Int) ≤ most) (hm : most ≤ 4611686018427387904) (t : Bs) : rt most (txtB s ++ t, 0) = (s, (t, 0)) := by
  have := rn_enc (n := s.length) (most := most) (by omega) h1 hm (s ++ t)
  unfold rt txtB
  rw [List.append_assoc, this]
  simp only [decide_true, cond_true]
  rw [decide_eq_false (by rw [List.length_append]; omega), cond_false, Int.toNat_natCast, List.take_left, List.drop_left]
theorem rlGo_enc : ∀ (l : List Int) (t : Bs), (∀ n ∈ l, okN n) → rlGo l.length (numsB l ++ t, 0) = (l, (t, 0))
  | [], t, _ => rfl
  | n :: l, t, h => by
    have h0 := h n (by simp)
    have ih := rlGo_enc l t (fun m hm => h m (by simp [hm]))
    have e : numsB (n :: l) ++ t = encI n ++ (numsB l ++ t) := by simp [numsB]
    rw [List.length_cons, rlGo, e, rn_enc h0.1 h0.2 (Int.le_refl _)]
    simp only [decide_true, cond_true]
    rw [ih]
theorem rl_enc {l : List Int} {most : Int} (h1 : (l.length : Int) ≤ most) (hm : most ≤ 4611686018427387904) (h : ∀ n ∈ l, okN n) (t : Bs) : rl most (listB l ++ t, 0) = (l, (t, 0)) := by
  unfold rl listB
  rw [List.append_assoc, rn_enc (by omega) h1 hm]
  simp only [Int.toNat_natCast]
  exact rlGo_enc l t h
theorem trim_pad {s : Bs} (h : s.length = 512) : padZ (trimZ s) = s ∧ (trimZ s).length ≤ 512 := by
  have key : ∀ l : Bs, ∃ n, l = List.replicate n 0 ++ l.dropWhile (· == 0) := by
    intro l
    induction l with
    | nil => exact ⟨0, rfl⟩
    | cons x l ih =>
      rw [List.dropWhile_cons]
      by_cases hx : x = 0
      · subst hx
        obtain ⟨n, hn⟩ := ih
        refine ⟨n + 1, ?_⟩
        simp only [beq_self_eq_true, if_true, List.replicate_succ, List.cons_append]
        rw [← hn]
      · refine ⟨0, ?_⟩
        rw [if_neg (by simpa using hx)]; rfl
  obtain ⟨n, hn⟩ := key s.reverse
  have h1 : s = trimZ s ++ zeros n := by
    have := congrArg List.reverse hn
    rw [List.reverse_reverse, List.reverse_append, List.reverse_replicate] at this
    exact this
  have hl := congrArg List.length h1
  rw [List.length_append, zeros_len] at hl
  refine ⟨?_, by omega⟩
  unfold padZ
  rw [show 512 - (trimZ s).length = n by omega]
  exact h1.symm
theorem imgErr_ok {l : List (Int × Pg)} (h : imgErr l = 0) : ∀ m ∈ l, pErr m.2 = 0 := by
  induction l with
  | nil => intro m hm; cases hm
  | cons x l ih =>
    unfold imgErr at h
    cases hx : decide (pErr x.2 = 0) with
    | true =>
      rw [hx, cond_true] at h
      intro m hm
      rcases List.mem_cons.1 hm with rfl | hm
      · simpa using hx
      · exact ih h m hm
    | false =>
      rw [hx, cond_false] at h
      rw [decide_eq_false_iff_not] at hx
      exact absurd h hx
theorem riGo_enc : ∀ (l : List (Int × Pg)) (t : Bs), (∀ m ∈ l, okN m.1 ∧ pErr m.2 = 0 ∧ m.2.lsn ≤ 9223372036854775807) → riGo l.length (l.flatMap imgB ++ t, 0) = some (l, (t, 0))
  | [], t, _ => rfl
  | m :: l, t, h => by
    obtain ⟨h0, h1, h2⟩ := h m (by simp)
    have ih := riGo_enc l t (fun m hm => h m (by simp [hm]))
    have e : (m :: l).flatMap imgB ++ t = encI m.1 ++ (txtB (trimZ (pEnc m.2).1) ++ (l.flatMap imgB ++ t)) := by simp [imgB]
    obtain ⟨e1, e2⟩ := trim_pad (pEnc_len h1)
    rw [List.length_cons, riGo, e, rn_enc h0.1 h0.2 (Int.le_refl _)]
    simp only
    rw [rt_enc (by omega) (by omega)]
    simp only
    rw [e1, dec_enc h1 h2, ih]
    rfl
theorem rpGo_enc : ∀ (l : List (Int × Int)) (t : Bs), (∀ m ∈ l, okN m.1 ∧ okN m.2) → rpGo l.length (l.flatMap prB ++ t, 0) = some (l, (t, 0))
  | [], t, _ => rfl
  | m :: l, t, h => by
    obtain ⟨h0, h1⟩ := h m (by simp)
    have ih := rpGo_enc l t (fun m hm => h m (by simp [hm]))
    have e : (m :: l).flatMap prB ++ t = encI m.1 ++ (encI m.2 ++ (l.flatMap prB ++ t)) := by simp [prB]
    rw [List.length_cons, rpGo, e, rn_enc h0.1 h0.2 (Int.le_refl _)]
    simp only
    rw [rn_enc h1.1 h1.2 (Int.le_refl _), ih]
    rfl
structure Good (r : Rc) : Prop where
  kind : 1 ≤ r.kind ∧ r.kind ≤ 13
  nums : ∀ n ∈ rNums r, okN n
  data : r.data.length ≤ 512
  slots : r.slots.length ≤ 255
  more : r.more.length ≤ 255
  imgs : r.imgs.length ≤ 4
  pages : r.pages.length ≤ 8192
  txns : r.txns.length ≤ 1024
  img : ∀ m ∈ r.imgs, pErr m.2 = 0
  lsns : ∀ m ∈ r.imgs, m.2.lsn ≤ 9223372036854775807
theorem badN_ok {n : Int} (h : badN n = false) : okN n := by
  unfold badN at h
  rw [Bool.or_eq_false_iff, decide_eq_false_iff_not, decide_eq_false_iff_not] at h
  unfold okN; omega
theorem rCheck_ok {r : Rc} (h : (rCheck r).2 = 0) (hl : ∀ m ∈ r.imgs, m.2.lsn ≤ 9223372036854775807) : Good r ∧ 1 ≤ r.lsn ∧ (rCheck r).1 = rBody r ∧ (rBody r).length ≤ 65535 := by
  unfold rCheck at h ⊢
  cases h1 : decide (r.kind < 1) || decide (13 < r.kind) with
  | true => rw [h1, cond_true] at h; cases h
  | false =>
  rw [h1, cond_false] at h
  cases h2 : decide (r.lsn < 1) || (rNums r).any badN with
  | true => rw [h2, cond_true] at h; cases h
  | false =>
  rw [h2, cond_false] at h
  cases h3 : longR r with
  | true => rw [h3, cond_true] at h; cases h
  | false =>
  rw [h3, cond_false] at h
  simp only [cond_false]
  unfold rInner at h ⊢
  cases h4 : decide (imgErr r.imgs = 0) with
  | false =>
    rw [h4, cond_false] at h
    rw [decide_eq_false_iff_not] at h4
    exact absurd h h4
  | true =>
  rw [h4, cond_true] at h
  cases h5 : decide (65535 < (rBody r).length) with
  | true => rw [h5, cond_true] at h; cases h
  | false =>
  simp only [cond_true, cond_false]
  rw [Bool.or_eq_false_iff, decide_eq_false_iff_not, decide_eq_false_iff_not] at h1
  rw [Bool.or_eq_false_iff, decide_eq_false_iff_not] at h2
  simp only [longR, Bool.or_eq_false_iff, decide_eq_false_iff_not] at h3
  rw [decide_eq_true_eq] at h4
  rw [decide_eq_false_iff_not] at h5
  refine ⟨⟨by omega, fun n hn => badN_ok ?_, by omega, by omega, by omega, by omega, by omega, by omega, imgErr_ok h4, hl⟩, by omega, trivial, by omega⟩
  have := List.any_eq_false.1 h2.2 n hn
  simpa using this
theorem mem_prs {l : List (Int × Int)} {p : Int × Int} (h : p ∈ l) : p.1 ∈ prs l ∧ p.2 ∈ prs l := by
  unfold prs
  exact ⟨List.mem_flatMap.2 ⟨p, h, by simp⟩, List.mem_flatMap.2 ⟨p, h, by simp⟩⟩
theorem ten_enc {r : Rc} (h : Good r) (t : Bs) : ten (numsB (headL r) ++ t) = (headL r, (t, 0)) := by
  have hn : ∀ n, n ∈ [r.lsn, r.prev, r.next, r.redo, r.xid, r.page, r.slot, r.old, r.new] → okN n := fun n hm => h.nums n (by unfold rNums; simp only [List.mem_append]; exact .inl (.inl (.inl (.inl (.inl hm)))))
  have e : numsB (headL r) ++ t = encI r.lsn ++ (encI r.prev ++ (encI r.next ++ (encI r.kind ++ (encI r.xid ++ (encI r.page ++ (encI r.slot ++ (encI r.old ++ (encI r.new ++ (encI r.redo ++ t))))))))) := by simp [numsB, headL]
  have hk := h.kind
  have q := fun n hm t => rn_enc (hn n hm).1 (hn n hm).2 (Int.le_refl _) t
  have q0 := q r.lsn (by simp)
  have q1 := q r.prev (by simp)
  have q2 := q r.next (by simp)
  have q4 := q r.xid (by simp)
  have q5 := q r.page (by simp)
  have q6 := q r.slot (by simp)
  have q7 := q r.old (by simp)
  have q8 := q r.new (by simp)
  have q9 := q r.redo (by simp)
  have q3 : ∀ t, rn 13 (encI r.kind ++ t, 0) = (r.kind, (t, 0)) := fun t => rn_enc (by omega) hk.2 (by omega) t
  rw [e]
  simp only [ten, q0, q1, q2, q3, q4, q5, q6, q7, q8, q9]
  rfl
theorem outer_enc {r : Rc} (h : Good r) : outerP (rBody r) = some r := by
  have e : rBody r = numsB (headL r) ++ (txtB r.data ++ (listB r.slots ++ (listB r.more ++ (encI (r.imgs.length : Int) ++ (r.imgs.flatMap imgB ++ (encI (r.pages.length : Int) ++ (r.pages.flatMap prB ++ (encI (r.txns.length : Int) ++ (r.txns.flatMap prB ++ []))))))))) := by simp [rBody]
  have hd := h.data
  have hs := h.slots
  have hm := h.more
  have hi := h.imgs
  have hp := h.pages
  have ht := h.txns
  unfold outerP
  rw [e, ten_enc h]
  simp only [tailP]
  rw [rt_enc (by omega) (by omega)]
  simp only
  rw [rl_enc (by omega) (by omega) (fun n hn => h.nums n (by unfold rNums; simp only [List.mem_append]; exact .inl (.inl (.inl (.inl (.inr hn))))))]
  simp only
  rw [rl_enc (by omega) (by omega) (fun n hn => h.nums n (by unfold rNums; simp only [List.mem_append]; exact .inl (.inl (.inl (.inr hn)))))]
  simp only
  rw [rn_enc (by omega) (by omega) (by omega)]
  simp only [Int.toNat_natCast]
  rw [riGo_enc _ _ (fun m hm => ⟨h.nums _ (by unfold rNums; simp only [List.mem_append]; exact .inl (.inl (.inr (List.mem_map.2 ⟨m, hm, rfl⟩)))), h.img m hm, h.lsns m hm⟩)]
  simp only [Option.bind_some]
  rw [rn_enc (by omega) (by omega) (by omega)]
  simp only [Int.toNat_natCast]
  rw [rpGo_enc _ _ (fun m hm => ⟨h.nums _ (by unfold rNums; simp only [List.mem_append]; exact .inl (.inr (mem_prs hm).1)), h.nums _ (by unfold rNums; simp only [List.mem_append]; exact .inl (.inr (mem_prs hm).2))⟩)]
  simp only [Option.bind_some]
  rw [rn_enc (by omega) (by omega) (by omega)]
  simp only [Int.toNat_natCast]
  rw [rpGo_enc _ _ (fun m hm => ⟨h.nums _ (by unfold rNums; simp only [List.mem_append]; exact .inr (mem_prs hm).1), h.nums _ (by unfold rNums; simp only [List.mem_append]; exact .inr (mem_prs hm).2)⟩)]
  rfl

end Go.Proofs.YthbngnlmgplijaaGreatDoor

namespace Go.Proofs.YthbngnlmgplijaaGreatDoor
open Go.Al Go.Proofs
set_option linter.unusedVariables false
set_option linter.unusedSimpArgs false
set_option linter.unusedSectionVars false
set_option maxRecDepth 100000

theorem E47 : ElemT Tryz.prog 23 3 1 8 := elemT_of Tryz.underlying23 (by kernel_rfl)
/-- Cells, one behind the other, as one value. -/
theorem cellsV_of {w : World} {ad : Addr} {l : List Value} {n : Nat} (hl : l.length = n) (h : ∀ j, j < n → w.cell? (ad.add j) = l[j]?) : cellsV w ad n = some (.agg l.toArray) := by
  have key : ∀ (m j : Nat), j + m ≤ n → cellsAt w ad j m = some ((l.drop j).take m) := by
    intro m
    induction m with
    | zero => intro j hj; simp [cellsAt]
    | succ m ih =>
      intro j hj
      have hlt : j < l.length := by omega
      have hcell := h j (by omega)
      rw [List.getElem?_eq_getElem hlt] at hcell
      simp only [cellsAt, hcell, ih (j + 1) (by omega), Option.map_some]
      rw [List.drop_eq_getElem_cons hlt, List.take_succ_cons]
  unfold cellsV
  rw [key n 0 (by omega)]
  simp only [List.drop_zero, Option.map_some]
  rw [List.take_of_length_le (by omega)]
theorem flat_get {α : Type} {f : α → List Value} {n : Nat} (hf : ∀ x, (f x).length = n) {L : List α} {i : Nat} {x : α} (h : L[i]? = some x) {j : Nat} (hj : j < n) : (L.flatMap f)[i * n + j]? = (f x)[j]? := by
  induction L generalizing i with
  | nil => simp at h
  | cons y L ih =>
    rw [List.flatMap_cons]
    cases i with
    | zero =>
      simp at h; subst h
      rw [Nat.zero_mul, Nat.zero_add, List.getElem?_append_left (by rw [hf]; exact hj)]
    | succ i =>
      rw [List.getElem?_append_right (by rw [hf, Nat.succ_mul]; omega), hf, Nat.succ_mul]
      rw [show i * n + n + j - n = i * n + j by omega]
      exact ih (by simpa using h)
theorem flat_len {α : Type} {f : α → List Value} {n : Nat} (hf : ∀ x, (f x).length = n) (L : List α) : (L.flatMap f).length = L.length * n := by
  induction L with
  | nil => simp
  | cons y L ih => rw [List.flatMap_cons, List.length_append, hf, ih, List.length_cons, Nat.succ_mul]; omega
theorem cells_ld {α : Type} {f : α → List Value} {n : Nat} (hf : ∀ x, (f x).length = n) (hn : 0 < n) {w : World} {v : Value} {L : List α} (h : CellsAt w v L.length n (L.flatMap f)) {i : Nat} {x : α} (hx : L[i]? = some x) :
    ∃ ad, ixV n v (iv i) = some (.pointer (some ad)) ∧ cellsV w ad n = some (.agg (f x).toArray) ∧ blockOf v = some ad.block := by
  obtain ⟨ad, h1, h2, h3⟩ := h.at hn (List.getElem?_eq_some_iff.1 hx).1 .i64
  exact ⟨ad, h1, cellsV_of (hf x) (fun j hj => by rw [h3 j hj, flat_get hf hx hj]), h2⟩
theorem own_new {w : World} {e : TypeId} {sz base n : Nat} {l : List Value} (hl : l.length = n * sz) (hb : base ≤ w.heap.size) (hn : n ≤ maxLen) : (w.alloc (.cells l.toArray e)).ownsRow base e sz (.slice (some ⟨w.heap.size, 0, none⟩) n n) n l :=
  ⟨hl, .inr ⟨_, n, l.toArray, rfl, hb, alloc_new _ _, Nat.le_refl _, hn, by simp [hl], by simp [← hl]⟩⟩
theorem own_up {w : World} {base base' : Nat} {e : TypeId} {sz : Nat} {v : Value} {n : Nat} {xs : List Value} (h : w.ownsRow base e sz v n xs) (hb : ∀ k, v.ownBlock = some k → base' ≤ k) : w.ownsRow base' e sz v n xs := by
  refine ⟨h.1, ?_⟩
  rcases h.2 with h2 | ⟨g, cap, cur, rfl, hb', r⟩
  · exact .inl h2
  · exact .inr ⟨g, cap, cur, rfl, hb g rfl, r⟩

/-! ### A record -/
def pc2 (p : Int × Int) : List Value := [iv p.1, iv p.2]
theorem pc2_len (p : Int × Int) : (pc2 p).length = 2 := rfl
theorem pc2_prs (l : List (Int × Int)) : l.flatMap pc2 = (prs l).map iv := by
  induction l with
  | nil => rfl
  | cons p l ih => rw [List.flatMap_cons, ih]; rfl
def imC (x : Int × Pg × Value) : List Value := iv x.1 :: (pcs x.2.1 x.2.2).toList
theorem imC_len (x : Int × Pg × Value) : (imC x).length = 7 := rfl
def rcs (r : Rc) (vs vm vi vp vt : Value) : Array Value := #[iv r.lsn, iv r.prev, iv r.next, .int .u8 r.kind, iv r.xid, iv r.page, iv r.slot, iv r.old, iv r.new, iv r.redo, stv r.data, vs, vm, vi, vp, vt]
/-- A slice of images. -/
structure ImAs (w : World) (v : Value) (L : List (Int × Pg)) : Prop where
  ex : ∃ X : List (Int × Pg × Value), X.map (fun x => (x.1, x.2.1)) = L ∧ CellsAt w v X.length 7 (X.flatMap imC) ∧ ∀ x ∈ X, x.2.2.oneCell' = true ∧ PgAs w (pcs x.2.1 x.2.2) x.2.1
theorem ImAs.keep {w w' : World} {v : Value} {L : List (Int × Pg)} (h : ImAs w v L) (hf : Fm (fun _ => False) w w') : ImAs w' v L := by
  obtain ⟨X, h1, h2, h3⟩ := h.ex
  exact ⟨X, h1, h2.keep hf (fun _ _ e => e), fun x hx => ⟨(h3 x hx).1, (h3 x hx).2.keep hf⟩⟩
theorem ImAs.lenV {w : World} {v : Value} {L : List (Int × Pg)} (h : ImAs w v L) : lenV v = some (iv L.length) := by
  obtain ⟨X, h1, h2, h3⟩ := h.ex
  rw [← h1, List.length_map]; exact h2.lenV
theorem ImAs.ld {w : World} {v : Value} {L : List (Int × Pg)} (h : ImAs w v L) {i : Nat} {m : Int × Pg} (hi : L[i]? = some m) : ∃ ad u, ixV 7 v (iv i) = some (.pointer (some ad)) ∧ cellsV w ad 7 = some (.agg (imC (m.1, m.2, u)).toArray) ∧ u.oneCell' = true ∧ PgAs w (pcs m.2 u) m.2 := by
  obtain ⟨X, h1, h2, h3⟩ := h.ex
  rw [← h1, List.getElem?_map, Option.map_eq_some_iff] at hi
  obtain ⟨x, hx, rfl⟩ := hi
  obtain ⟨ad, q1, q2, _⟩ := cells_ld imC_len (by omega) h2 hx
  obtain ⟨q3, q4⟩ := h3 x (List.mem_of_getElem? hx)
  exact ⟨ad, x.2.2, q1, q2, q3, q4⟩
structure RcAs (w : World) (cs : Array Value) (r : Rc) : Prop where
  ex : ∃ vs vm vi vp vt, cs = rcs r vs vm vi vp vt ∧ (vs.oneCell' = true ∧ vm.oneCell' = true ∧ vi.oneCell' = true ∧ vp.oneCell' = true ∧ vt.oneCell' = true) ∧ CellsAt w vs r.slots.length 1 (r.slots.map iv) ∧ CellsAt w vm r.more.length 1 (r.more.map iv) ∧ ImAs w vi r.imgs ∧
    CellsAt w vp r.pages.length 2 (r.pages.flatMap pc2) ∧ CellsAt w vt r.txns.length 2 (r.txns.flatMap pc2)
  ins : ∀ n ∈ rNums r, In n
  kin : 0 ≤ r.kind ∧ r.kind ≤ 255
  data : r.data.length ≤ 140737488355328
  bulk : r.slots.length + r.more.length + r.imgs.length + r.pages.length + r.txns.length ≤ 2000000
  lsns : ∀ m ∈ r.imgs, m.2.lsn ≤ 9223372036854775807
theorem RcAs.keep {w w' : World} {cs : Array Value} {r : Rc} (h : RcAs w cs r) (hf : Fm (fun _ => False) w w') : RcAs w' cs r := by
  obtain ⟨vs, vm, vi, vp, vt, h1, h2, h3, h4, h5, h6, h7⟩ := h.ex
  exact ⟨⟨vs, vm, vi, vp, vt, h1, h2, h3.keep hf (fun _ _ e => e), h4.keep hf (fun _ _ e => e), h5.keep hf, h6.keep hf (fun _ _ e => e), h7.keep hf (fun _ _ e => e)⟩, h.ins, h.kin, h.data, h.bulk, h.lsns⟩
theorem RcAs.size {w : World} {cs : Array Value} {r : Rc} (h : RcAs w cs r) : cs.size = 16 := by obtain ⟨vs, vm, vi, vp, vt, rfl, _⟩ := h.ex; rfl
theorem RcAs.one {w : World} {cs : Array Value} {r : Rc} (h : RcAs w cs r) : ∀ u ∈ cs.toList, u.oneCell' = true := by
  obtain ⟨vs, vm, vi, vp, vt, rfl, ⟨h1, h2, h3, h4, h5⟩, _⟩ := h.ex
  intro u hu
  simp [rcs] at hu
  rcases hu with rfl | rfl | rfl | rfl | rfl | rfl | rfl | rfl | rfl | rfl | rfl | rfl | rfl | rfl | rfl | rfl <;> first | rfl | assumption
/-- A record's block. -/
structure RB (w : World) (g : Nat) (r : Rc) (vs vm vi vp vt : Value) : Prop where
  h : w.heap[g]? = some (.cells (rcs r vs vm vi vp vt) 28)
section
variable {S : Nat → Prop} {w w' : World} {g : Nat} {r : Rc} {vs vm vi vp vt : Value}
theorem RB.keep (h : RB w g r vs vm vi vp vt) (hf : Fm S w w') (hs : ¬ S g) : RB w' g r vs vm vi vp vt := ⟨hf.heap h.h hs⟩
theorem RB.c0 (h : RB w g r vs vm vi vp vt) : w.cell? ⟨g, 0, none⟩ = some (iv r.lsn) := by rw [cell_at h.h]; rfl
theorem RB.c1 (h : RB w g r vs vm vi vp vt) : w.cell? ⟨g, 1, none⟩ = some (iv r.prev) := by rw [cell_at h.h]; rfl
theorem RB.c2 (h : RB w g r vs vm vi vp vt) : w.cell? ⟨g, 2, none⟩ = some (iv r.next) := by rw [cell_at h.h]; rfl
theorem RB.c3 (h : RB w g r vs vm vi vp vt) : w.cell? ⟨g, 3, none⟩ = some (.int .u8 r.kind) := by rw [cell_at h.h]; rfl
theorem RB.c4 (h : RB w g r vs vm vi vp vt) : w.cell? ⟨g, 4, none⟩ = some (iv r.xid) := by rw [cell_at h.h]; rfl
theorem RB.c5 (h : RB w g r vs vm vi vp vt) : w.cell? ⟨g, 5, none⟩ = some (iv r.page) := by rw [cell_at h.h]; rfl
theorem RB.c6 (h : RB w g r vs vm vi vp vt) : w.cell? ⟨g, 6, none⟩ = some (iv r.slot) := by rw [cell_at h.h]; rfl
theorem RB.c7 (h : RB w g r vs vm vi vp vt) : w.cell? ⟨g, 7, none⟩ = some (iv r.old) := by rw [cell_at h.h]; rfl
theorem RB.c8 (h : RB w g r vs vm vi vp vt) : w.cell? ⟨g, 8, none⟩ = some (iv r.new) := by rw [cell_at h.h]; rfl
theorem RB.c9 (h : RB w g r vs vm vi vp vt) : w.cell? ⟨g, 9, none⟩ = some (iv r.redo) := by rw [cell_at h.h]; rfl
theorem RB.c10 (h : RB w g r vs vm vi vp vt) : w.cell? ⟨g, 10, none⟩ = some (stv r.data) := by rw [cell_at h.h]; rfl
theorem RB.c11 (h : RB w g r vs vm vi vp vt) : w.cell? ⟨g, 11, none⟩ = some vs := by rw [cell_at h.h]; rfl
theorem RB.c12 (h : RB w g r vs vm vi vp vt) : w.cell? ⟨g, 12, none⟩ = some vm := by rw [cell_at h.h]; rfl
theorem RB.c13 (h : RB w g r vs vm vi vp vt) : w.cell? ⟨g, 13, none⟩ = some vi := by rw [cell_at h.h]; rfl
theorem RB.c14 (h : RB w g r vs vm vi vp vt) : w.cell? ⟨g, 14, none⟩ = some vp := by rw [cell_at h.h]; rfl
theorem RB.c15 (h : RB w g r vs vm vi vp vt) : w.cell? ⟨g, 15, none⟩ = some vt := by rw [cell_at h.h]; rfl
theorem RB.all (h : RB w g r vs vm vi vp vt) : cellsV w ⟨g, 0, none⟩ 16 = some (.agg (rcs r vs vm vi vp vt)) := cellsV_blk h.h rfl
theorem RB.lt (h : RB w g r vs vm vi vp vt) : g < w.heap.size := lt_of_heap h.h
end

/-! ### A writer of the call's own -/
structure WS (w0 w : World) (r : Nat) (B : Bs) : Prop where
  ex : ∃ v, w.heap[r]? = some (.cells #[v] 243) ∧ w.ownsRow w0.heap.size 5 1 v B.length (bc B)
  fm : Fm (fun _ => False) w0 w
  ge : w0.heap.size ≤ r
theorem WS.wr {w0 w : World} {r : Nat} {B : Bs} (h : WS w0 w r B) : WrAt w r B ∧ ∀ y, wrM w r y → w0.heap.size ≤ y ∧ y < w.heap.size := by
  obtain ⟨v, hv, ho⟩ := h.ex
  refine ⟨⟨v, hv, own_base ho (Nat.zero_le _)⟩, ?_⟩
  rintro y (rfl | ⟨v', hv', hy⟩)
  · exact ⟨h.ge, lt_of_heap hv⟩
  · rw [hv] at hv'; cases hv'; exact own_lt ho y hy
theorem WS.of {w0 w w' : World} {r : Nat} {B B' : Bs} {S : Nat → Prop} (h : WS w0 w r B) (h' : WrAt w' r B') (hf : Fm S w w') (hS : ∀ y, S y → w0.heap.size ≤ y) (hM : ∀ y, wrM w' r y → wrM w r y ∨ w.heap.size ≤ y) : WS w0 w' r B' := by
  obtain ⟨v, hv, ho⟩ := h'.ex
  have hz := h.fm.size
  refine ⟨⟨v, hv, own_up ho (fun k hk => ?_)⟩, Fm.own h.fm hf hS, h.ge⟩
  rcases hM k (.inr ⟨v, hv, hk⟩) with e | e
  · exact (h.wr.2 k e).1
  · omega
theorem WS.keep {w0 w w' : World} {r : Nat} {B : Bs} (h : WS w0 w r B) (hf : Fm (fun _ => False) w w') : WS w0 w' r B := by
  obtain ⟨v, hv, ho⟩ := h.ex
  exact ⟨⟨v, hf.heap hv (fun e => e), own_keep ho hf (fun _ _ _ _ e => e)⟩, Fmf h.fm hf, h.ge⟩
theorem WS.new {w0 w : World} (hf : Fm (fun _ => False) w0 w) {k : KV} (hk : ∀ w' r, WS w0 w' r [] → Fm (fun _ => False) w w' → k (pv r) w') : Cl Tryz.prog 199 [] w k := by
  refine (bnew_spec w).mono ?_
  rintro _ w' ⟨rfl, h1, h2, h3⟩
  have hz := hf.size
  obtain ⟨v, hv, ho⟩ := h1.ex
  refine hk w' _ ⟨⟨v, hv, own_up ho (fun k hk => ?_)⟩, Fmf hf h3, hz⟩ h3
  have := h2 k (.inr ⟨v, hv, hk⟩)
  omega
theorem WS.num {w0 w : World} {r : Nat} {B : Bs} (h : WS w0 w r B) {v : Value} {ns : List Int} (hns : CellsAt w v ns.length 1 (ns.map iv)) (hb : ns ≠ [] → ∀ g, blockOf v = some g → g < w0.heap.size) (hin : ∀ n ∈ ns, n ≤ 9223372036854775807) (hl : B.length + 9 * ns.length ≤ 1000000000000) {k : KV}
    (hk : ∀ u w', WS w0 w' r (B ++ numsB ns) → k u w') : Cl Tryz.prog 200 [pv r, v] w k := by
  obtain ⟨hw, hm⟩ := h.wr
  refine (wnum_spec hw hns (fun hne g hg e => by have := hb hne g hg; have := (hm g e).1; omega) hin hl).mono ?_
  rintro u w' ⟨h1, h2, h3⟩
  exact hk u w' (h.of h1 h2 (fun y hy => (hm y hy).1) h3)
theorem WS.lit {w0 w : World} {r n : Nat} {B : Bs} (h : WS w0 w r B) {ns : List Int} {items : Array (Nat × Value)} (hb : (Instr.buildSlice 23 n items).run Tryz.prog w = .ok (.slice (some ⟨w.heap.size, 0, none⟩) n n) (w.alloc (.cells (ns.map iv).toArray 3))) (hn : ns.length = n) (hin : ∀ n ∈ ns, n ≤ 9223372036854775807) (hl : B.length + 9 * n ≤ 1000000000000) {k : KV}
    (hk : ∀ u w', WS w0 w' r (B ++ numsB ns) → k u w') : RunS Tryz.prog (Instr.buildSlice 23 n items) w fun t w1 => Cl Tryz.prog 200 [pv r, t] w1 k := by
  refine RunS_ok hb ?_
  subst hn
  have hf := Fm.alloc (fun _ => False) w (.cells (ns.map iv).toArray 3)
  have ho := own_new (w := w) (e := 3) (sz := 1) (base := w.heap.size) (n := ns.length) (l := ns.map iv) (by simp) (Nat.le_refl _) (by unfold maxLen; omega)
  have h1 := h.keep hf
  obtain ⟨hw, hm⟩ := h.wr
  generalize w.alloc (.cells (ns.map iv).toArray 3) = w1 at hf ho h1
  obtain ⟨hw1, hm1⟩ := h1.wr
  have hsame : ∀ y, wrM w1 r y → y < w.heap.size := fun y hy => by
    obtain ⟨_, e⟩ := hw.keep hf (fun _ _ e => e)
    exact hw.lt y ((e y).1 hy)
  refine (wnum_spec hw1 (CellsAt.of_own ho) (fun hne g hg e => ?_) hin hl).mono ?_
  · have h0 := hsame g e
    have h1 : g = w.heap.size := (Option.some.inj hg).symm
    omega
  · rintro u w' ⟨g1, g2, g3⟩
    exact hk u w' (h1.of g1 g2 (fun y hy => (hm1 y hy).1) g3)
theorem bs47_1 (a : Int) (w : World) : (Instr.buildSlice 23 1 #[(0, iv a)]).run Tryz.prog w = .ok (.slice (some ⟨w.heap.size, 0, none⟩) 1 1) (w.alloc (.cells ([a].map iv).toArray 3)) := by kernel_rfl
theorem bs47_2 (a b : Int) (w : World) : (Instr.buildSlice 23 2 #[(0, iv a), (1, iv b)]).run Tryz.prog w = .ok (.slice (some ⟨w.heap.size, 0, none⟩) 2 2) (w.alloc (.cells ([a, b].map iv).toArray 3)) := by kernel_rfl
theorem bs47_9 (a b c d e f g h i : Int) (w : World) : (Instr.buildSlice 23 9 #[(0, iv a), (1, iv b), (2, iv c), (3, iv d), (4, iv e), (5, iv f), (6, iv g), (7, iv h), (8, iv i)]).run Tryz.prog w = .ok (.slice (some ⟨w.heap.size, 0, none⟩) 9 9) (w.alloc (.cells ([a, b, c, d, e, f, g, h, i].map iv).toArray 3)) := by kernel_rfl
theorem bs47_10 (a b c d e f g h i j : Int) (w : World) : (Instr.buildSlice 23 10 #[(0, iv a), (1, iv b), (2, iv c), (3, iv d), (4, iv e), (5, iv f), (6, iv g), (7, iv h), (8, iv i), (9, iv j)]).run Tryz.prog w = .ok (.slice (some ⟨w.heap.size, 0, none⟩) 10 10) (w.alloc (.cells ([a, b, c, d, e, f, g, h, i, j].map iv).toArray 3)) := by kernel_rfl
theorem numsB1 (a : Int) : numsB [a] = encI a := by simp [numsB]
theorem encI_len {n : Int} (h : n ≤ 9223372036854775807) : (encI n).length ≤ 9 := by unfold encI; exact (encN_le (by omega)).2
theorem numsB_len : ∀ {l : List Int}, (∀ n ∈ l, n ≤ 9223372036854775807) → (numsB l).length ≤ 9 * l.length
  | [], _ => by simp [numsB]
  | n :: l, h => by
    have := numsB_len (l := l) (fun m hm => h m (by simp [hm]))
    have := encI_len (h n (by simp))
    unfold numsB at *
    rw [List.flatMap_cons, List.length_append, List.length_cons]; omega
set_option maxHeartbeats 1000000 in
theorem WS.text {w0 w : World} {r : Nat} {B : Bs} (h : WS w0 w r B) {s : Bs} (hs : s.length ≤ 1000000) (hl : B.length + 9 + s.length ≤ 1000000000) {k : KV} (hk : ∀ u w', WS w0 w' r (B ++ txtB s) → k u w') : Cl Tryz.prog 201 [pv r, stv s] w k := by
  refine c201 ?_; unfold T201
  simp only [RS0, RS1, RS2, RS3, RS4, RS5, str_size]
  refine h.lit (bs47_1 _ _) rfl (by intro n hn; simp at hn; omega) (by omega) ?_
  intro u w1 h1
  rw [numsB1] at h1
  obtain ⟨v, hv, ho⟩ := h1.ex
  have c0 : w1.cell? ⟨r, 0, none⟩ = some v := by rw [cell_at hv]; rfl
  have hel := encI_len (n := s.length) (by omega)
  have hz := h1.fm.size
  simp only [RS0, RS1, RS2, RS3, RS4, RS5, c0]
  obtain ⟨v', w2, hr2, ho2, hf2, _⟩ := append_text B38 ho s 123 (by rw [List.length_append]; omega) hz
  refine RunS_ok hr2 ?_
  have hne : v.ownBlock ≠ some r := fun e => by
    rcases ho.2 with ⟨rfl, _⟩ | ⟨g, cap, cur, rfl, _, hg, _⟩
    · cases e
    · have : g = r := by simpa [Value.ownBlock] using e
      subst this
      rw [hv] at hg; cases hg
  have hlt := own_lt ho
  refine St_blk (hf2.heap hv hne) (by show 0 < 1; decide) (own_one ho2) ?_
  intro w3 hw3 hs3 hf3
  replace hw3 : w3.heap[r]? = some (.cells #[v'] 243) := hw3
  have ho3 : w3.ownsRow w0.heap.size 5 1 v' _ _ := own_keep ho2 hf3 (fun g _ _ hg e => by
    rcases ho2.2 with ⟨rfl, _⟩ | ⟨g', cap, cur, rfl, _, hgg, _⟩
    · cases hg
    · have e1 : g' = g := by simpa [Value.ownBlock] using hg
      rw [e1, e] at hgg
      rw [hf2.heap hv hne] at hgg; cases hgg)
  refine hk _ _ ⟨⟨v', hw3, ?_⟩, Fm.own (Fm.own h1.fm hf2 (fun y hy => (hlt y hy).1)) hf3 (by rintro y rfl; exact h1.ge), h1.ge⟩
  have e1 : (B ++ txtB s) = (B ++ encI s.length) ++ s := by simp [txtB]
  rw [e1]
  have e2 : ((B ++ encI s.length) ++ s).length = (B ++ encI s.length).length + s.length := List.length_append
  rw [e2]
  exact ho3

end Go.Proofs.YthbngnlmgplijaaGreatDoor

namespace Go.Proofs.YthbngnlmgplijaaGreatDoor
open Go.Al Go.Proofs
set_option linter.unusedVariables false
set_option linter.unusedSimpArgs false
set_option linter.unusedSectionVars false
set_option maxRecDepth 100000

theorem iv_one (l : List Int) : ∀ u ∈ l.map iv, u.oneCell' = true := by
  intro u hu
  obtain ⟨n, _, rfl⟩ := List.mem_map.1 hu
  rfl
theorem row_src {w : World} {b0 : Nat} {lv v : Value} {L ns : List Int} (ho : w.ownsRow b0 3 1 lv L.length (L.map iv)) (hc : CellsAt w v ns.length 1 (ns.map iv)) (hl : L.length + ns.length ≤ 100000000) (hb : b0 ≤ w.heap.size) :
    ∃ v' w', (Builtin.append_ #[23, 23] 23 #[lv, v]).run Tryz.prog w = .ok v' w' ∧ w'.ownsRow b0 3 1 v' (L ++ ns).length ((L ++ ns).map iv) ∧ Fm (fun y => b0 ≤ y) w w' := by
  obtain ⟨v', w', hr, ho', hf⟩ := append_srcO E47 (by omega) ho hc (iv_one ns) 23 (by unfold maxLen; omega) (by omega) hb
  refine ⟨v', w', hr, ?_, hf.mono (fun y _ e => (own_lt ho y e).1)⟩
  rw [List.length_append, List.map_append]; exact ho'
theorem row_lit {w : World} {b0 n : Nat} {lv : Value} {L ns : List Int} {items : Array (Nat × Value)} (ho : w.ownsRow b0 3 1 lv L.length (L.map iv)) (hbs : (Instr.buildSlice 23 n items).run Tryz.prog w = .ok (.slice (some ⟨w.heap.size, 0, none⟩) n n) (w.alloc (.cells (ns.map iv).toArray 3))) (hn : ns.length = n) (hl : L.length + n ≤ 100000000) (hb : b0 ≤ w.heap.size) {k : KV}
    (hk : ∀ v' w', w'.ownsRow b0 3 1 v' (L ++ ns).length ((L ++ ns).map iv) → Fm (fun y => b0 ≤ y) w w' → k v' w') : RunS Tryz.prog (Instr.buildSlice 23 n items) w fun t w1 => RunS Tryz.prog (Builtin.append_ #[23, 23] 23 #[lv, t]) w1 k := by
  refine RunS_ok hbs ?_
  subst hn
  have hf := Fm.alloc (fun _ => False) w (.cells (ns.map iv).toArray 3)
  have hnew := own_new (w := w) (e := 3) (sz := 1) (base := w.heap.size) (n := ns.length) (l := ns.map iv) (by simp) (Nat.le_refl _) (by unfold maxLen; omega)
  have ho1 := own_keep ho hf (fun _ _ _ _ e => e)
  have hz := hf.size
  generalize w.alloc (.cells (ns.map iv).toArray 3) = w1 at hf hnew ho1 hz
  obtain ⟨v', w', hr, ho', hf'⟩ := row_src ho1 (CellsAt.of_own hnew) hl (by omega)
  exact RunS_ok hr (hk v' w' ho' ((hf.mono (fun _ _ e => e.elim)).trans hf' (fun _ _ e => e) (fun _ _ e => e)))

set_option maxHeartbeats 8000000 in
theorem numbers_spec {w : World} {cs : Array Value} {r : Rc} (h : RcAs w cs r) : Cl Tryz.prog 156 [.agg cs] w fun v w' => w'.ownsRow w.heap.size 3 1 v (rNums r).length ((rNums r).map iv) ∧ Fm (fun _ => False) w w' := by
  obtain ⟨vs, vm, vi, vp, vt, hcs, _, hs, hm, hi, hp, ht⟩ := h.ex
  have hbulk := h.bulk
  refine c156 ?_; unfold T156
  refine New_any ?_
  intro x1 w1 hx1 hs1 hw1 hf1
  have hR1 : RB w1 x1 r vs vm vi vp vt := ⟨by rw [← hcs]; exact hw1⟩
  have hz1 := hf1.size
  simp only [RS0, RS1, RS2, RS3, RS4, RS5, hR1.c0, hR1.c1, hR1.c2, hR1.c4, hR1.c5, hR1.c6, hR1.c7, hR1.c8, hR1.c9]
  refine RunS_ok (bs47_9 _ _ _ _ _ _ _ _ _ _) ?_
  have hf2 := Fm.alloc (fun _ => False) w1 (.cells ([r.lsn, r.prev, r.next, r.redo, r.xid, r.page, r.slot, r.old, r.new].map iv).toArray 3)
  have ho2 := own_new (w := w1) (e := 3) (sz := 1) (base := w1.heap.size) (n := 9) (l := [r.lsn, r.prev, r.next, r.redo, r.xid, r.page, r.slot, r.old, r.new].map iv) (by simp) (Nat.le_refl _) (by simp [maxLen])
  have hL : rNums r = [r.lsn, r.prev, r.next, r.redo, r.xid, r.page, r.slot, r.old, r.new] ++ r.slots ++ r.more ++ r.imgs.map (·.1) ++ prs r.pages ++ prs r.txns := rfl
  have h9 : ([r.lsn, r.prev, r.next, r.redo, r.xid, r.page, r.slot, r.old, r.new] : List Int).length = 9 := rfl
  rw [hL]
  replace ho2 : (w1.alloc (.cells ([r.lsn, r.prev, r.next, r.redo, r.xid, r.page, r.slot, r.old, r.new].map iv).toArray 3)).ownsRow w1.heap.size 3 1 (.slice (some ⟨w1.heap.size, 0, none⟩) 9 9) ([r.lsn, r.prev, r.next, r.redo, r.xid, r.page, r.slot, r.old, r.new] : List Int).length ([r.lsn, r.prev, r.next, r.redo, r.xid, r.page, r.slot, r.old, r.new].map iv) := ho2
  generalize w1.alloc (.cells ([r.lsn, r.prev, r.next, r.redo, r.xid, r.page, r.slot, r.old, r.new].map iv).toArray 3) = w2 at hf2 ho2
  generalize ([r.lsn, r.prev, r.next, r.redo, r.xid, r.page, r.slot, r.old, r.new] : List Int) = L9 at ho2 h9
  have hf3 := Fm.drew (fun _ => False) w2
  have hR2 := hR1.keep hf2 (fun e => e)
  have hR3 := hR2.keep hf3 (fun e => e)
  refine ⟨fun w' => w'.cell? ⟨x1, 12, none⟩ = some vm, hR3.c12, ?_⟩
  simp only [RS0, RS1, RS2, RS3, RS4, RS5, hR2.c11, hR3.c11, true_and]
  refine ⟨vm, fun w9 h9 => ?_, ?_⟩
  · simp only [RS0, RS1, RS2, RS3, RS4, RS5, h9]; trivial
  have ho3 := own_keep ho2 hf3 (fun _ _ _ _ e => e)
  have hF3 := Fmf hf2 hf3
  generalize w2.drew = w3 at hf3 hR3 ho3 hF3
  have hz3 := hF3.size
  obtain ⟨v4, w4, hr4, ho4, hf4⟩ := row_src ho3 (hs.keep (Fmf hf1 hF3) (fun _ _ e => e)) (by omega) hz3
  have hx1lt := hR1.lt
  have hF4 : Fm (fun _ => False) w1 w4 := Fm.own hF3 hf4 (fun y e => e)
  have hR4 := hR1.keep hF4 (fun e => e)
  have hz4 := hF4.size
  refine RunS_ok hr4 ⟨hR4.c12, ?_⟩
  obtain ⟨v5, w5, hr5, ho5, hf5⟩ := row_src ho4 (hm.keep (Fmf hf1 hF4) (fun _ _ e => e)) (by rw [List.length_append]; omega) hz4
  have hF5 : Fm (fun _ => False) w1 w5 := Fm.own hF4 hf5 (fun y e => e)
  have hR5 := hR1.keep hF5 (fun e => e)
  have hz5 := hF5.size
  refine RunS_ok hr5 ?_
  have hi5 := hi.keep (Fmf hf1 hF5)
  have hl5 : (L9 ++ r.slots ++ r.more).length ≤ 2000009 := by simp only [List.length_append]; omega
  generalize L9 ++ r.slots ++ r.more = L5 at ho5 hl5
  simp only [RS0, RS1, RS2, RS3, RS4, RS5, hR5.c13, hi5.lenV]
  refine ⟨fun vs w' => ∃ (i : Nat) (lv : Value), vs = [lv, iv i] ∧ i ≤ r.imgs.length ∧ w'.ownsRow w1.heap.size 3 1 lv (L5 ++ (r.imgs.take i).map (·.1)).length ((L5 ++ (r.imgs.take i).map (·.1)).map iv) ∧ Fm (fun _ => False) w1 w', fun vs _ => (r.imgs.length - nth vs 1).toNat, ⟨0, v5, rfl, by omega, by simpa using ho5, hF5⟩, ?_⟩
  rintro _ w6 lv iv6 ⟨i, lv', hvs, hile, ho6, hF6⟩
  cases hvs
  have hz6 := hF6.size
  have hti : ((r.imgs.take i).map (·.1)).length = i := by rw [List.length_map, List.length_take]; omega
  by_cases hlt : i < r.imgs.length
  · have hx : r.imgs[i]? = some r.imgs[i] := List.getElem?_eq_getElem hlt
    generalize r.imgs[i] = m at hx
    obtain ⟨ad, u, hix, hcv, hone, hpg⟩ := (hi.keep (Fmf hf1 hF6)).ld hx
    have d1 : decide ((i : Int) < (r.imgs.length : Int)) = true := by rw [decide_eq_true_eq]; omega
    have e1 : IntKind.i64.wrap ((i : Int) + 1) = ((i + 1 : Nat) : Int) := by rw [wrap_id] <;> omega
    simp only [RS0, RS1, RS2, RS3, RS4, RS5, d1, hix, hcv]
    refine New_any ?_
    intro x7 w7 hx7 hs7 hw7 hf7
    refine St_all hw7 rfl (imC_len _) (by intro q hq; simp [imC, pcs] at hq; rcases hq with rfl | rfl | rfl | rfl | rfl | rfl | rfl <;> first | rfl | exact hone) ?_
    intro w8 hw8 hs8 hf8
    have hf68 : Fm (fun _ => False) w6 w8 := Fm.own hf7 hf8 (by rintro y rfl; omega)
    have ho8 := own_keep ho6 hf68 (fun _ _ _ _ e => e)
    have c8 : w8.cell? ⟨x7, 0, none⟩ = some (iv m.1) := by rw [cell_at hw8]; rfl
    have hF8 := Fmf hF6 hf68
    have hz8 := hF8.size
    simp only [RS0, RS1, RS2, RS3, RS4, RS5, c8]
    refine row_lit ho8 (bs47_1 _ _) rfl (by rw [List.length_append, hti]; omega) hz8 ?_
    intro v9 w9 ho9 hf9
    simp only [RS0, RS1, RS2, RS3, RS4, RS5, e1]
    refine ⟨⟨i + 1, v9, rfl, by omega, ?_, Fm.own hF8 hf9 (fun y e => e)⟩, by simp only [nth_1]; omega⟩
    have e2 : L5 ++ (r.imgs.take (i + 1)).map (·.1) = L5 ++ (r.imgs.take i).map (·.1) ++ [m.1] := by rw [List.take_add_one, hx]; simp
    rw [e2]; exact ho9
  · have hie : i = r.imgs.length := by omega
    subst hie
    have d1 : decide (((r.imgs.length : Nat) : Int) < (r.imgs.length : Int)) = false := by simp
    rw [List.take_length] at ho6
    have hl6 : (L5 ++ r.imgs.map (·.1)).length ≤ 4000009 := by rw [List.length_append, List.length_map]; omega
    generalize L5 ++ r.imgs.map (·.1) = L6 at ho6 hl6
    have hR6 := hR1.keep hF6 (fun e => e)
    have hp6 := hp.keep (Fmf hf1 hF6) (fun _ _ e => e)
    simp only [RS0, RS1, RS2, RS3, RS4, RS5, d1, hR6.c14, hp6.lenV]
    refine ⟨fun vs w' => ∃ (i : Nat) (lv : Value), vs = [lv, iv i] ∧ i ≤ r.pages.length ∧ w'.ownsRow w1.heap.size 3 1 lv (L6 ++ prs (r.pages.take i)).length ((L6 ++ prs (r.pages.take i)).map iv) ∧ Fm (fun _ => False) w1 w', fun vs _ => (r.pages.length - nth vs 1).toNat, ⟨0, lv, rfl, by omega, by simpa [prs] using ho6, hF6⟩, ?_⟩
    rintro _ w7 lv iv7 ⟨i, lv', hvs, hile, ho7, hF7⟩
    cases hvs
    have hz7 := hF7.size
    have hti : (prs (r.pages.take i)).length = i * 2 := by
      have := congrArg List.length (pc2_prs (r.pages.take i))
      rw [List.length_map, flat_len pc2_len, List.length_take, Nat.min_eq_left hile] at this
      omega
    by_cases hlt : i < r.pages.length
    · have hx : r.pages[i]? = some r.pages[i] := List.getElem?_eq_getElem hlt
      generalize r.pages[i] = m at hx
      obtain ⟨ad, hix, hcv, _⟩ := cells_ld pc2_len (by omega) (hp.keep (Fmf hf1 hF7) (fun _ _ e => e)) hx
      have d1 : decide ((i : Int) < (r.pages.length : Int)) = true := by rw [decide_eq_true_eq]; omega
      have e1 : IntKind.i64.wrap ((i : Int) + 1) = ((i + 1 : Nat) : Int) := by rw [wrap_id] <;> omega
      simp only [RS0, RS1, RS2, RS3, RS4, RS5, d1, hix, hcv]
      refine New_any ?_
      intro x8 w8 hx8 hs8 hw8 hf8
      refine St_all hw8 rfl (pc2_len _) (by intro q hq; simp [pc2] at hq; rcases hq with rfl | rfl <;> rfl) ?_
      intro w9 hw9 hs9 hf9
      have hf79 : Fm (fun _ => False) w7 w9 := Fm.own hf8 hf9 (by rintro y rfl; omega)
      have ho9 := own_keep ho7 hf79 (fun _ _ _ _ e => e)
      have c0 : w9.cell? ⟨x8, 0, none⟩ = some (iv m.1) := by rw [cell_at hw9]; rfl
      have c1 : w9.cell? ⟨x8, 1, none⟩ = some (iv m.2) := by rw [cell_at hw9]; rfl
      have hF9 := Fmf hF7 hf79
      have hz9 := hF9.size
      simp only [RS0, RS1, RS2, RS3, RS4, RS5, c0, c1]
      refine row_lit ho9 (bs47_2 _ _ _) rfl (by rw [List.length_append, hti]; omega) hz9 ?_
      intro v10 w10 ho10 hf10
      simp only [RS0, RS1, RS2, RS3, RS4, RS5, e1]
      refine ⟨⟨i + 1, v10, rfl, by omega, ?_, Fm.own hF9 hf10 (fun y e => e)⟩, by simp only [nth_1]; omega⟩
      have e2 : L6 ++ prs (r.pages.take (i + 1)) = L6 ++ prs (r.pages.take i) ++ [m.1, m.2] := by rw [List.take_add_one, hx]; simp [prs]
      rw [e2]; exact ho10
    · have hie : i = r.pages.length := by omega
      subst hie
      have d1 : decide (((r.pages.length : Nat) : Int) < (r.pages.length : Int)) = false := by simp
      rw [List.take_length] at ho7 hti
      have hl7 : (L6 ++ prs r.pages).length ≤ 8000009 := by rw [List.length_append, hti]; omega
      generalize L6 ++ prs r.pages = L7 at ho7 hl7
      have hR7 := hR1.keep hF7 (fun e => e)
      have ht7 := ht.keep (Fmf hf1 hF7) (fun _ _ e => e)
      simp only [RS0, RS1, RS2, RS3, RS4, RS5, d1, hR7.c15, ht7.lenV]
      refine ⟨fun vs w' => ∃ (i : Nat) (lv : Value), vs = [lv, iv i] ∧ i ≤ r.txns.length ∧ w'.ownsRow w1.heap.size 3 1 lv (L7 ++ prs (r.txns.take i)).length ((L7 ++ prs (r.txns.take i)).map iv) ∧ Fm (fun _ => False) w1 w', fun vs _ => (r.txns.length - nth vs 1).toNat, ⟨0, lv, rfl, by omega, by simpa [prs] using ho7, hF7⟩, ?_⟩
      rintro _ w8 lv iv8 ⟨i, lv', hvs, hile, ho8, hF8⟩
      cases hvs
      have hz8 := hF8.size
      have hti : (prs (r.txns.take i)).length = i * 2 := by
        have := congrArg List.length (pc2_prs (r.txns.take i))
        rw [List.length_map, flat_len pc2_len, List.length_take, Nat.min_eq_left hile] at this
        omega
      by_cases hlt : i < r.txns.length
      · have hx : r.txns[i]? = some r.txns[i] := List.getElem?_eq_getElem hlt
        generalize r.txns[i] = m at hx
        obtain ⟨ad, hix, hcv, _⟩ := cells_ld pc2_len (by omega) (ht.keep (Fmf hf1 hF8) (fun _ _ e => e)) hx
        have d1 : decide ((i : Int) < (r.txns.length : Int)) = true := by rw [decide_eq_true_eq]; omega
        have e1 : IntKind.i64.wrap ((i : Int) + 1) = ((i + 1 : Nat) : Int) := by rw [wrap_id] <;> omega
        simp only [RS0, RS1, RS2, RS3, RS4, RS5, d1, hix, hcv]
        refine New_any ?_
        intro x9 w9 hx9 hs9 hw9 hf9
        refine St_all hw9 rfl (pc2_len _) (by intro q hq; simp [pc2] at hq; rcases hq with rfl | rfl <;> rfl) ?_
        intro w10 hw10 hs10 hf10
        have hf810 : Fm (fun _ => False) w8 w10 := Fm.own hf9 hf10 (by rintro y rfl; omega)
        have ho10 := own_keep ho8 hf810 (fun _ _ _ _ e => e)
        have c0 : w10.cell? ⟨x9, 0, none⟩ = some (iv m.1) := by rw [cell_at hw10]; rfl
        have c1 : w10.cell? ⟨x9, 1, none⟩ = some (iv m.2) := by rw [cell_at hw10]; rfl
        have hF10 := Fmf hF8 hf810
        have hz10 := hF10.size
        simp only [RS0, RS1, RS2, RS3, RS4, RS5, c0, c1]
        refine row_lit ho10 (bs47_2 _ _ _) rfl (by rw [List.length_append, hti]; omega) hz10 ?_
        intro v11 w11 ho11 hf11
        simp only [RS0, RS1, RS2, RS3, RS4, RS5, e1]
        refine ⟨⟨i + 1, v11, rfl, by omega, ?_, Fm.own hF10 hf11 (fun y e => e)⟩, by simp only [nth_1]; omega⟩
        have e2 : L7 ++ prs (r.txns.take (i + 1)) = L7 ++ prs (r.txns.take i) ++ [m.1, m.2] := by rw [List.take_add_one, hx]; simp [prs]
        rw [e2]; exact ho11
      · have hie : i = r.txns.length := by omega
        subst hie
        have d1 : decide (((r.txns.length : Nat) : Int) < (r.txns.length : Int)) = false := by simp
        rw [List.take_length] at ho8
        simp only [RS0, RS1, RS2, RS3, RS4, RS5, d1]
        exact ⟨own_base ho8 (by omega), Fmf hf1 hF8⟩

/-! ### Is any beyond bounds? -/
theorem bad_spec (w : World) (n : Int) : Cl Tryz.prog 157 [iv n] w fun v w' => v = .bool (badN n) ∧ w' = w := by
  refine c157 ?_; unfold T157
  unfold badN
  simp only [RS0, RS1, RS2, RS3, RS4, RS5]
  cases h1 : decide (n < 0) with
  | true =>
    simp only [RS0, RS1, RS2, RS3, RS4, RS5, Bool.true_or]
    exact ⟨(by trivial), (by trivial)⟩
  | false =>
    simp only [RS0, RS1, RS2, RS3, RS4, RS5, Bool.false_or]
    exact ⟨(by trivial), (by trivial)⟩
theorem contains_spec {w : World} {v : Value} {L : List Int} (h : CellsAt w v L.length 1 (L.map iv)) : Cl Tryz.prog 155 [v, .func (.func 157) #[] #[]] w fun u w' => u = .bool (L.any badN) ∧ w' = w := by
  have hlt := h.lt
  unfold maxLen at hlt
  have key : Cl Tryz.prog 198 [v, .func (.func 157) #[] #[]] w fun u w' => ∃ i : Int, u = iv i ∧ decide (0 ≤ i) = L.any badN ∧ w' = w := by
    refine c198 ?_; unfold T198
    simp only [RS0, RS1, RS2, RS3, RS4, RS5, h.lenV]
    refine ⟨fun vs w2 => ∃ i : Nat, vs = [iv i] ∧ i ≤ L.length ∧ (L.take i).any badN = false ∧ w2 = w, fun vs _ => (L.length - nth vs 0).toNat, ⟨0, rfl, by omega, rfl, rfl⟩, ?_⟩
    rintro _ w2 ivv ⟨i, hvs, hi, hno, rfl⟩
    cases hvs
    by_cases hl : i < L.length
    · have e1 : decide ((i : Int) < (L.length : Int)) = true := by rw [decide_eq_true_eq]; omega
      have e2 : IntKind.i64.wrap ((i : Int) + 1) = ((i + 1 : Nat) : Int) := by rw [wrap_id] <;> omega
      have hx : L[i]? = some L[i] := List.getElem?_eq_getElem hl
      generalize L[i] = n at hx
      obtain ⟨ad, hix, _, hc⟩ := h.at1 (i := i) (x := iv n) (by rw [List.getElem?_map, hx]; rfl) .i64
      simp only [RS0, RS1, RS2, RS3, RS4, RS5, e1, hix, hc]
      refine ClV_func (by kernel_rfl) ?_
      refine (bad_spec w2 n).mono ?_
      rintro _ w3 ⟨rfl, rfl⟩
      cases hb : badN n with
      | true =>
        simp only [RS0, RS1, RS2, RS3, RS4, RS5]
        refine ⟨i, (by trivial), ?_, (by trivial)⟩
        rw [decide_eq_true (by omega)]
        exact (List.any_eq_true.2 ⟨n, List.mem_of_getElem? hx, hb⟩).symm
      | false =>
        simp only [RS0, RS1, RS2, RS3, RS4, RS5, e2]
        refine ⟨⟨i + 1, rfl, by omega, ?_, (by trivial)⟩, by simp only [nth_0]; omega⟩
        rw [List.take_add_one, hx, List.any_append, hno]
        simp [hb]
    · have hie : i = L.length := by omega
      subst hie
      have e1 : decide (((L.length : Nat) : Int) < (L.length : Int)) = false := by simp
      rw [List.take_length] at hno
      simp only [RS0, RS1, RS2, RS3, RS4, RS5, e1]
      exact ⟨-1, (by trivial), by rw [hno]; rfl, (by trivial)⟩
  refine c155 ?_; unfold T155
  refine key.mono ?_
  rintro _ w2 ⟨i, rfl, hi, rfl⟩
  simp only [RS0, RS1, RS2, RS3, RS4, RS5, hi]
  exact ⟨(by trivial), (by trivial)⟩

/-! ### The noughts at the end -/
theorem trimZ_last {t : Bs} {b : UInt8} (h : t[t.length - 1]? = some b) : trimZ t = bif decide (b = 0) then trimZ (t.take (t.length - 1)) else t := by
  have hl := (List.getElem?_eq_some_iff.1 h).1
  have ht : t = t.take (t.length - 1) ++ [b] := by
    have := List.take_append_drop (t.length - 1) t
    rw [List.drop_eq_getElem_cons hl, (List.getElem?_eq_some_iff.1 h).2, show t.length - 1 + 1 = t.length by omega, List.drop_length] at this
    exact this.symm
  generalize t.take (t.length - 1) = s at ht
  subst ht
  unfold trimZ
  rw [List.reverse_append, List.reverse_singleton, List.singleton_append, List.dropWhile_cons]
  cases hb : decide (b = 0) with
  | true =>
    rw [decide_eq_true_eq] at hb
    subst hb
    rfl
  | false =>
    rw [decide_eq_false_iff_not] at hb
    rw [if_neg (by simpa using hb)]
    simp
theorem trimr_spec (w : World) (s : Bs) (hs : s.length ≤ 1000000) : Cl Tryz.prog 202 [stv s, stv [0]] w fun v w' => v = stv (trimZ s) ∧ w' = w := by
  refine c202 ?_; unfold T202
  have e0 : decide (([0] : Bs) = []) = false := by decide
  simp only [RS0, RS1, RS2, RS3, RS4, RS5, str_nil, str_inj, e0]
  cases hn : decide (s = []) with
  | true =>
    rw [decide_eq_true_eq] at hn
    subst hn
    simp only [RS0, RS1, RS2, RS3, RS4, RS5]
    exact ⟨(by trivial), (by trivial)⟩
  | false =>
  have e1 : lenS (stv [0]) = some (iv 1) := rfl
  have e2 : ixS (stv [0]) (Value.int .i64 0) = some (.int .u8 0) := rfl
  have e3 : decide ((0 : Int) < 128) = true := by decide
  have e4 : (((str ([0] : Bs)).size : Int) == 1) = true := rfl
  have e5 : decide (str ([0] : Bs) = str []) = false := by rw [decide_eq_false_iff_not, str_inj]; decide
  simp only [RS0, RS1, RS2, RS3, RS4, RS5, e1, e2, e3, e4, e5]
  refine c182 ?_; unfold T182
  refine ⟨fun vs w2 => ∃ t : Bs, vs = [stv t] ∧ t.length ≤ s.length ∧ trimZ t = trimZ s ∧ w2 = w, fun vs _ => match vs with
    | [.string b] => b.size
    | _ => 0, ⟨s, rfl, Nat.le_refl _, rfl, rfl⟩, ?_⟩
  rintro _ w2 tv ⟨t, hvs, hl, htr, rfl⟩
  cases hvs
  simp only [RS0, RS1, RS2, RS3, RS4, RS5, str_size]
  by_cases h0 : 0 < t.length
  · have d1 : decide ((0 : Int) < (t.length : Int)) = true := by rw [decide_eq_true_eq]; omega
    have e5 : IntKind.i64.wrap ((t.length : Int) - 1) = ((t.length - 1 : Nat) : Int) := by rw [wrap_id] <;> omega
    have hx : t[t.length - 1]? = some t[t.length - 1] := List.getElem?_eq_getElem (by omega)
    generalize t[t.length - 1] = b at hx
    have hlast := trimZ_last hx
    have e6 := ixS_str hx .i64
    have e7 : ((b.toNat : Int) == 0) = decide (b = 0) := by
      rw [beq_dec, decide_eq_decide]
      constructor
      · intro e
        exact UInt8.toNat_inj.1 (by simpa using (show b.toNat = 0 by omega))
      · rintro rfl; rfl
    have e8 := slS_hi (l := t) (i := t.length - 1) (by omega) .i64
    simp only [RS0, RS1, RS2, RS3, RS4, RS5, d1, str_size, e5, e6, e7]
    cases hb : decide (b = 0) with
    | true =>
      rw [hb, cond_true] at hlast
      simp only [RS0, RS1, RS2, RS3, RS4, RS5, str_size, e5, e8]
      refine ⟨⟨t.take (t.length - 1), rfl, by rw [List.length_take]; omega, by rw [← hlast]; exact htr, (by trivial)⟩, ?_⟩
      simp only [str_size, List.length_take]; omega
    | false =>
      rw [hb, cond_false] at hlast
      simp only [RS0, RS1, RS2, RS3, RS4, RS5]
      exact ⟨by rw [← htr, hlast], (by trivial)⟩
  · have ht0 : t = [] := List.eq_nil_of_length_eq_zero (by omega)
    subst ht0
    have d1 : decide ((0 : Int) < (([] : Bs).length : Int)) = false := by decide
    simp only [RS0, RS1, RS2, RS3, RS4, RS5, d1]
    exact ⟨by rw [← htr]; rfl, (by trivial)⟩

end Go.Proofs.YthbngnlmgplijaaGreatDoor

namespace Go.Proofs.YthbngnlmgplijaaGreatDoor
open Go.Al Go.Proofs
set_option linter.unusedVariables false
set_option linter.unusedSimpArgs false
set_option linter.unusedSectionVars false
set_option maxRecDepth 100000

theorem bld147 (a1 a2 : Option Addr) (n1 c1 n2 c2 : Nat) (w : World) : (Instr.build 227 #[(0, .slice a1 n1 c1), (1, .slice a2 n2 c2)]).run Tryz.prog w = .ok (.agg #[.slice a1 n1 c1, .slice a2 n2 c2]) w := by kernel_rfl
theorem im_body {w : World} {x : Nat} {m : Int} {p : Pg} {u : Value} (h : w.heap[x]? = some (.cells (imC (m, p, u)).toArray 118)) : cellsV w ⟨x, 1, none⟩ 6 = some (.agg (pcs p u)) := by
  refine cellsV_of (l := (pcs p u).toList) rfl (fun j hj => ?_)
  have : j = 0 ∨ j = 1 ∨ j = 2 ∨ j = 3 ∨ j = 4 ∨ j = 5 := by omega
  rcases this with rfl | rfl | rfl | rfl | rfl | rfl <;> (rw [add_none, cell_at h]; rfl)
theorem numsB2 (a b : Int) : numsB [a, b] = prB (a, b) := by simp [numsB, prB]
theorem prB_len {p : Int × Int} (h1 : p.1 ≤ 9223372036854775807) (h2 : p.2 ≤ 9223372036854775807) : (prB p).length ≤ 18 := by
  have := encI_len h1
  have := encI_len h2
  unfold prB
  rw [List.length_append]; omega
set_option maxHeartbeats 16000000 in
theorem inner_spec {w : World} {cs : Array Value} {r : Rc} (h : RcAs w cs r) (hlong : longR r = false) : Cl Tryz.prog 158 [.agg cs] w fun v w' => v = .tuple #[stv (rInner r).1, iv (rInner r).2] ∧ Fm (fun _ => False) w w' := by
  obtain ⟨vs, vm, vi, vp, vt, hcs, _, hs, hm, hi, hp, ht⟩ := h.ex
  simp only [longR, Bool.or_eq_false_iff, decide_eq_false_iff_not] at hlong
  obtain ⟨⟨⟨⟨⟨l1, l2⟩, l3⟩, l4⟩, l5⟩, l6⟩ := hlong
  have hins := h.ins
  have hk8 := h.kin
  have n9 : ∀ n ∈ [r.lsn, r.prev, r.next, r.redo, r.xid, r.page, r.slot, r.old, r.new], In n := fun n hn => hins n (by unfold rNums; simp only [List.mem_append]; exact .inl (.inl (.inl (.inl (.inl hn)))))
  have nsl : ∀ n ∈ r.slots, n ≤ 9223372036854775807 := fun n hn => (hins n (by unfold rNums; simp only [List.mem_append]; exact .inl (.inl (.inl (.inl (.inr hn)))))).2
  have nmo : ∀ n ∈ r.more, n ≤ 9223372036854775807 := fun n hn => (hins n (by unfold rNums; simp only [List.mem_append]; exact .inl (.inl (.inl (.inr hn))))).2
  have nim : ∀ m ∈ r.imgs, m.1 ≤ 9223372036854775807 := fun m hm => (hins m.1 (by unfold rNums; simp only [List.mem_append]; exact .inl (.inl (.inr (List.mem_map.2 ⟨m, hm, rfl⟩))))).2
  have npg : ∀ m ∈ r.pages, m.1 ≤ 9223372036854775807 ∧ m.2 ≤ 9223372036854775807 := fun m hm => ⟨(hins m.1 (by unfold rNums; simp only [List.mem_append]; exact .inl (.inr (mem_prs hm).1))).2, (hins m.2 (by unfold rNums; simp only [List.mem_append]; exact .inl (.inr (mem_prs hm).2))).2⟩
  have ntx : ∀ m ∈ r.txns, m.1 ≤ 9223372036854775807 ∧ m.2 ≤ 9223372036854775807 := fun m hm => ⟨(hins m.1 (by unfold rNums; simp only [List.mem_append]; exact .inr (mem_prs hm).1)).2, (hins m.2 (by unfold rNums; simp only [List.mem_append]; exact .inr (mem_prs hm).2)).2⟩
  have nhd : ∀ n ∈ headL r, n ≤ 9223372036854775807 := fun n hn => by
    unfold headL at hn
    simp only [List.mem_cons, List.not_mem_nil, or_false] at hn
    rcases hn with rfl | rfl | rfl | rfl | rfl | rfl | rfl | rfl | rfl | rfl <;> first | omega | exact (n9 _ (by simp)).2
  refine c158 ?_; unfold T158
  refine New_any ?_
  intro x1 w1 hx1 hs1 hw1 hf1
  have hR1 : RB w1 x1 r vs vm vi vp vt := ⟨by rw [← hcs]; exact hw1⟩
  have hlt1 := hR1.lt
  -- whatever the writer turns, the record's lists stay
  have kS : ∀ {w'}, Fm (fun _ => False) w1 w' → CellsAt w' vs r.slots.length 1 (r.slots.map iv) := fun hf => hs.keep (Fmf hf1 hf) (fun _ _ e => e)
  have kM : ∀ {w'}, Fm (fun _ => False) w1 w' → CellsAt w' vm r.more.length 1 (r.more.map iv) := fun hf => hm.keep (Fmf hf1 hf) (fun _ _ e => e)
  have kI : ∀ {w'}, Fm (fun _ => False) w1 w' → ImAs w' vi r.imgs := fun hf => hi.keep (Fmf hf1 hf)
  have kP : ∀ {w'}, Fm (fun _ => False) w1 w' → CellsAt w' vp r.pages.length 2 (r.pages.flatMap pc2) := fun hf => hp.keep (Fmf hf1 hf) (fun _ _ e => e)
  have kT : ∀ {w'}, Fm (fun _ => False) w1 w' → CellsAt w' vt r.txns.length 2 (r.txns.flatMap pc2) := fun hf => ht.keep (Fmf hf1 hf) (fun _ _ e => e)
  have kR : ∀ {w'}, Fm (fun _ => False) w1 w' → RB w' x1 r vs vm vi vp vt := fun hf => hR1.keep hf (fun e => e)
  have blt : ∀ {v : Value} {ns : List Int}, CellsAt w v ns.length 1 (ns.map iv) → ns ≠ [] → ∀ g, blockOf v = some g → g < w1.heap.size := fun hc hne g hg => by
    have := hc.blt (by simpa using hne) g hg
    omega
  refine WS.new (Fm.refl _ w1) ?_
  intro w2 rw h2 hf2
  have hR2 := kR hf2
  have ek : IntKind.i64.wrap r.kind = r.kind := by rw [wrap_id]; omega
  have ekc : cvI .i64 (.int .u8 r.kind) = some (iv r.kind) := by
    show some (Value.int .i64 (IntKind.i64.wrap r.kind)) = _
    rw [ek]
  simp only [RS0, RS1, RS2, RS3, RS4, RS5, hR2.c0, hR2.c1, hR2.c2, hR2.c3, hR2.c4, hR2.c5, hR2.c6, hR2.c7, hR2.c8, hR2.c9, ekc]
  refine h2.lit (bs47_10 _ _ _ _ _ _ _ _ _ _ _) rfl (fun n hn => nhd n hn) (by simp) ?_
  intro u3 w3 h3
  replace h3 : WS w1 w3 rw (numsB (headL r)) := by have := h3; rw [List.nil_append] at this; exact this
  have hl3 : (numsB (headL r)).length ≤ 90 := by have := numsB_len nhd; exact this
  have hR3 := kR h3.fm
  simp only [RS0, RS1, RS2, RS3, RS4, RS5, hR3.c10]
  refine h3.text (by omega) (by omega) ?_
  intro u4 w4 h4
  have hR4 := kR h4.fm
  have hl4 : (numsB (headL r) ++ txtB r.data).length ≤ 700 := by
    have := encI_len (n := r.data.length) (by omega)
    rw [List.length_append]; unfold txtB; rw [List.length_append]; omega
  simp only [RS0, RS1, RS2, RS3, RS4, RS5, hR4.c11, hR4.c12]
  have hsv : ∃ a c, vs = .slice a r.slots.length c := by obtain ⟨⟨a, c, e, _⟩, _⟩ := hs; exact ⟨a, c, e⟩
  have hmv : ∃ a c, vm = .slice a r.more.length c := by obtain ⟨⟨a, c, e, _⟩, _⟩ := hm; exact ⟨a, c, e⟩
  have hbld : (Instr.build 227 #[(0, vs), (1, vm)]).run Tryz.prog w4 = .ok (.agg #[vs, vm]) w4 := by
    obtain ⟨a, c, rfl⟩ := hsv
    obtain ⟨a', c', rfl⟩ := hmv
    exact bld147 _ _ _ _ _ _ _
  refine RunS_ok hbld ?_
  generalize hB4 : numsB (headL r) ++ txtB r.data = B4 at h4 hl4
  refine ⟨fun vl w' => (vl = [iv 0] ∧ WS w1 w' rw B4) ∨ (vl = [iv 1] ∧ WS w1 w' rw (B4 ++ listB r.slots)) ∨ (vl = [iv 2] ∧ WS w1 w' rw (B4 ++ listB r.slots ++ listB r.more)), fun vl _ => (2 - nth vl 0).toNat, .inl ⟨rfl, h4⟩, ?_⟩
  have hls : (listB r.slots).length ≤ 2400 := by
    have := numsB_len nsl
    have := encI_len (n := r.slots.length) (by omega)
    unfold listB; rw [List.length_append]; omega
  have hlm : (listB r.more).length ≤ 2400 := by
    have := numsB_len nmo
    have := encI_len (n := r.more.length) (by omega)
    unfold listB; rw [List.length_append]; omega
  rintro _ w5 iv5 (⟨hvl, h5⟩ | ⟨hvl, h5⟩ | ⟨hvl, h5⟩)
  · cases hvl
    have d1 : decide ((0 : Int) < 2) = true := by decide
    have e1 : ixG false 2 1 (.agg #[vs, vm]) (iv 0) = some vs := rfl
    have e2 : IntKind.i64.wrap (0 + 1) = 1 := rfl
    simp only [RS0, RS1, RS2, RS3, RS4, RS5, d1, e1, (kS h5.fm).lenV]
    refine h5.lit (bs47_1 _ _) rfl (by intro n hn; simp at hn; omega) (by omega) ?_
    intro u6 w6 h6
    rw [numsB1] at h6
    have := encI_len (n := r.slots.length) (by omega)
    refine h6.num (kS h6.fm) (blt hs) nsl (by rw [List.length_append]; omega) ?_
    intro u7 w7 h7
    simp only [RS0, RS1, RS2, RS3, RS4, RS5, e2]
    exact ⟨.inr (.inl ⟨(by trivial), by have := h7; rw [List.append_assoc] at this; exact this⟩), by simp [nth, iv]⟩
  · cases hvl
    have d1 : decide ((1 : Int) < 2) = true := by decide
    have e1 : ixG false 2 1 (.agg #[vs, vm]) (iv 1) = some vm := rfl
    have e2 : IntKind.i64.wrap (1 + 1) = 2 := rfl
    simp only [RS0, RS1, RS2, RS3, RS4, RS5, d1, e1, (kM h5.fm).lenV]
    refine h5.lit (bs47_1 _ _) rfl (by intro n hn; simp at hn; omega) (by rw [List.length_append]; omega) ?_
    intro u6 w6 h6
    rw [numsB1] at h6
    have := encI_len (n := r.more.length) (by omega)
    refine h6.num (kM h6.fm) (blt hm) nmo (by simp only [List.length_append]; omega) ?_
    intro u7 w7 h7
    simp only [RS0, RS1, RS2, RS3, RS4, RS5, e2]
    exact ⟨.inr (.inr ⟨(by trivial), by have := h7; rw [List.append_assoc (B4 ++ listB r.slots)] at this; exact this⟩), by simp [nth, iv]⟩
  · cases hvl
    have d1 : decide ((2 : Int) < 2) = false := by decide
    have hR5 := kR h5.fm
    have hl5 : (B4 ++ listB r.slots ++ listB r.more).length ≤ 6000 := by simp only [List.length_append]; omega
    generalize hB5 : B4 ++ listB r.slots ++ listB r.more = B5 at h5 hl5
    simp only [RS0, RS1, RS2, RS3, RS4, RS5, d1, hR5.c13, (kI h5.fm).lenV]
    refine h5.lit (bs47_1 _ _) rfl (by intro n hn; simp at hn; omega) (by omega) ?_
    intro u6 w6 h6
    rw [numsB1] at h6
    have hR6 := kR h6.fm
    have hl6 : (B5 ++ encI (r.imgs.length : Int)).length ≤ 6010 := by
      have := encI_len (n := r.imgs.length) (by omega)
      rw [List.length_append]; omega
    generalize hB6 : B5 ++ encI (r.imgs.length : Int) = B6 at h6 hl6
    simp only [RS0, RS1, RS2, RS3, RS4, RS5, hR6.c13, (kI h6.fm).lenV]
    refine ⟨fun vl w' => ∃ i : Nat, vl = [iv i] ∧ i ≤ r.imgs.length ∧ WS w1 w' rw (B6 ++ (r.imgs.take i).flatMap imgB) ∧ (B6 ++ (r.imgs.take i).flatMap imgB).length ≤ 6010 + 600 * i ∧ imgErr r.imgs = imgErr (r.imgs.drop i), fun vl _ => (r.imgs.length - nth vl 0).toNat, ⟨0, rfl, by omega, by simpa using h6, by simpa using hl6, rfl⟩, ?_⟩
    rintro _ w7 iv7 ⟨i, hvl, hile, h7, hl7, hie⟩
    cases hvl
    by_cases hlt : i < r.imgs.length
    · have hx : r.imgs[i]? = some r.imgs[i] := List.getElem?_eq_getElem hlt
      have hdr := List.drop_eq_getElem_cons hlt
      generalize r.imgs[i] = m at hx hdr
      rw [hdr] at hie
      have hmm := List.mem_of_getElem? hx
      obtain ⟨ad, u, hix, hcv, hone, hpg⟩ := (kI h7.fm).ld hx
      have d2 : decide ((i : Int) < (r.imgs.length : Int)) = true := by rw [decide_eq_true_eq]; omega
      have e1 : IntKind.i64.wrap ((i : Int) + 1) = ((i + 1 : Nat) : Int) := by rw [wrap_id] <;> omega
      simp only [RS0, RS1, RS2, RS3, RS4, RS5, d2, hix, hcv]
      refine New_any ?_
      intro x8 w8 hx8 hs8 hw8 hf8
      refine St_all hw8 rfl (imC_len _) (by intro q hq; simp [imC, pcs] at hq; rcases hq with rfl | rfl | rfl | rfl | rfl | rfl | rfl <;> first | rfl | exact hone) ?_
      intro w9 hw9 hs9 hf9
      have hf79 : Fm (fun _ => False) w7 w9 := Fm.own hf8 hf9 (by rintro y rfl; omega)
      have h9 := h7.keep hf79
      simp only [RS0, RS1, RS2, RS3, RS4, RS5, im_body hw9]
      refine (encode_spec (hpg.keep hf79)).mono ?_
      rintro _ w10 ⟨rfl, hf10⟩
      have h10 := h9.keep hf10
      have he : encR m.2 = .tuple #[stv (pEnc m.2).1, iv (pErr m.2)] := by unfold encR; rw [pEnc_err]
      rw [he]
      simp only [RS0, RS1, RS2, RS3, RS4, RS5, bne_dec]
      rw [show imgErr (m :: r.imgs.drop (i + 1)) = bif decide (pErr m.2 = 0) then imgErr (r.imgs.drop (i + 1)) else pErr m.2 from rfl] at hie
      cases hz : decide (pErr m.2 = 0) with
      | false =>
        rw [hz, cond_false] at hie
        have hz' : decide (imgErr r.imgs = 0) = false := by rw [hie]; exact hz
        simp only [RS0, RS1, RS2, RS3, RS4, RS5]
        refine ⟨?_, Fmf hf1 h10.fm⟩
        unfold rInner
        rw [hz', cond_false, hie]
        rfl
      | true =>
        rw [hz, cond_true] at hie
        have h0 : pErr m.2 = 0 := by simpa using hz
        have c10 : w10.cell? ⟨x8, 0, none⟩ = some (iv m.1) := by rw [cell_at (hf10.heap hw9 (fun e => e))]; rfl
        simp only [RS0, RS1, RS2, RS3, RS4, RS5, c10]
        refine h10.lit (bs47_1 _ _) rfl (by intro n hn; simp at hn; subst hn; exact nim m hmm) (by omega) ?_
        intro u11 w11 h11
        rw [numsB1] at h11
        have hel := encI_len (nim m hmm)
        have hlen := pEnc_len h0
        obtain ⟨_, htl⟩ := trim_pad hlen
        refine (trimr_spec w11 (pEnc m.2).1 (by omega)).mono ?_
        rintro _ w12 ⟨rfl, rfl⟩
        refine h11.text (by omega) (by rw [List.length_append]; omega) ?_
        intro u13 w13 h13
        simp only [RS0, RS1, RS2, RS3, RS4, RS5, e1]
        have e2 : B6 ++ (r.imgs.take (i + 1)).flatMap imgB = B6 ++ (r.imgs.take i).flatMap imgB ++ encI m.1 ++ txtB (trimZ (pEnc m.2).1) := by rw [List.take_add_one, hx]; simp [imgB]
        refine ⟨⟨i + 1, rfl, by omega, by rw [e2]; exact h13, ?_, hie⟩, by simp only [nth_0]; omega⟩
        rw [e2]
        have := encI_len (n := (trimZ (pEnc m.2).1).length) (by omega)
        simp only [List.length_append] at hl7 ⊢
        unfold txtB
        rw [List.length_append]
        omega
    · have hie2 : i = r.imgs.length := by omega
      subst hie2
      rw [List.drop_length] at hie
      have d2 : decide (((r.imgs.length : Nat) : Int) < (r.imgs.length : Int)) = false := by simp
      rw [List.take_length] at h7 hl7
      have hl7' : (B6 ++ r.imgs.flatMap imgB).length ≤ 9000 := by omega
      generalize hB7 : B6 ++ r.imgs.flatMap imgB = B7 at h7 hl7'
      have hR7 := kR h7.fm
      simp only [RS0, RS1, RS2, RS3, RS4, RS5, d2, hR7.c14, (kP h7.fm).lenV]
      refine h7.lit (bs47_1 _ _) rfl (by intro n hn; simp at hn; omega) (by omega) ?_
      intro u16 w16 h16
      rw [numsB1] at h16
      have hR16 := kR h16.fm
      have hl16 : (B7 ++ encI (r.pages.length : Int)).length ≤ 9100 := by
        have := encI_len (n := r.pages.length) (by omega)
        rw [List.length_append]; omega
      generalize hB16 : B7 ++ encI (r.pages.length : Int) = B16 at h16 hl16
      simp only [RS0, RS1, RS2, RS3, RS4, RS5, hR16.c14, (kP h16.fm).lenV]
      refine ⟨fun vl w' => ∃ i : Nat, vl = [iv i] ∧ i ≤ r.pages.length ∧ WS w1 w' rw (B16 ++ (r.pages.take i).flatMap prB) ∧ (B16 ++ (r.pages.take i).flatMap prB).length ≤ 9100 + 18 * i, fun vl _ => (r.pages.length - nth vl 0).toNat, ⟨0, rfl, by omega, by simpa using h16, by simpa using hl16⟩, ?_⟩
      rintro _ w17 iv17 ⟨i, hvl, hile, h17, hl17⟩
      cases hvl
      by_cases hlt : i < r.pages.length
      · have hx : r.pages[i]? = some r.pages[i] := List.getElem?_eq_getElem hlt
        generalize r.pages[i] = m at hx
        have hmm := List.mem_of_getElem? hx
        obtain ⟨ad, hix, hcv, _⟩ := cells_ld pc2_len (by omega) (kP h17.fm) hx
        have d2 : decide ((i : Int) < (r.pages.length : Int)) = true := by rw [decide_eq_true_eq]; omega
        have e1 : IntKind.i64.wrap ((i : Int) + 1) = ((i + 1 : Nat) : Int) := by rw [wrap_id] <;> omega
        simp only [RS0, RS1, RS2, RS3, RS4, RS5, d2, hix, hcv]
        refine New_any ?_
        intro x8 w8 hx8 hs8 hw8 hf8
        refine St_all hw8 rfl (pc2_len _) (by intro q hq; simp [pc2] at hq; rcases hq with rfl | rfl <;> rfl) ?_
        intro w9 hw9 hs9 hf9
        have hf79 : Fm (fun _ => False) w17 w9 := Fm.own hf8 hf9 (by rintro y rfl; omega)
        have h9 := h17.keep hf79
        have c0 : w9.cell? ⟨x8, 0, none⟩ = some (iv m.1) := by rw [cell_at hw9]; rfl
        have c1 : w9.cell? ⟨x8, 1, none⟩ = some (iv m.2) := by rw [cell_at hw9]; rfl
        simp only [RS0, RS1, RS2, RS3, RS4, RS5, c0, c1]
        obtain ⟨hm1, hm2⟩ := npg m hmm
        refine h9.lit (bs47_2 _ _ _) rfl (by intro n hn; simp at hn; rcases hn with rfl | rfl <;> assumption) (by omega) ?_
        intro u11 w11 h11
        rw [numsB2] at h11
        simp only [RS0, RS1, RS2, RS3, RS4, RS5, e1]
        have e2 : B16 ++ (r.pages.take (i + 1)).flatMap prB = B16 ++ (r.pages.take i).flatMap prB ++ prB (m.1, m.2) := by rw [List.take_add_one, hx]; simp
        refine ⟨⟨i + 1, rfl, by omega, by rw [e2]; exact h11, ?_⟩, by simp only [nth_0]; omega⟩
        rw [e2]
        have := prB_len (p := (m.1, m.2)) hm1 hm2
        rw [List.length_append]
        omega
      have hie3 : i = r.pages.length := by omega
      subst hie3
      have d17 : decide (((r.pages.length : Nat) : Int) < (r.pages.length : Int)) = false := by simp
      rw [List.take_length] at h17 hl17
      have hl17' : (B16 ++ r.pages.flatMap prB).length ≤ 160000 := by omega
      generalize hB17 : B16 ++ r.pages.flatMap prB = B17 at h17 hl17'
      have hR17 := kR h17.fm
      simp only [RS0, RS1, RS2, RS3, RS4, RS5, d17, hR17.c15, (kT h17.fm).lenV]
      refine h17.lit (bs47_1 _ _) rfl (by intro n hn; simp at hn; omega) (by omega) ?_
      intro u26 w26 h26
      rw [numsB1] at h26
      have hR26 := kR h26.fm
      have hl26 : (B17 ++ encI (r.txns.length : Int)).length ≤ 160100 := by
        have := encI_len (n := r.txns.length) (by omega)
        rw [List.length_append]; omega
      generalize hB26 : B17 ++ encI (r.txns.length : Int) = B26 at h26 hl26
      simp only [RS0, RS1, RS2, RS3, RS4, RS5, hR26.c15, (kT h26.fm).lenV]
      refine ⟨fun vl w' => ∃ i : Nat, vl = [iv i] ∧ i ≤ r.txns.length ∧ WS w1 w' rw (B26 ++ (r.txns.take i).flatMap prB) ∧ (B26 ++ (r.txns.take i).flatMap prB).length ≤ 160100 + 18 * i, fun vl _ => (r.txns.length - nth vl 0).toNat, ⟨0, rfl, by omega, by simpa using h26, by simpa using hl26⟩, ?_⟩
      rintro _ w27 iv27 ⟨i, hvl, hile, h27, hl27⟩
      cases hvl
      by_cases hlt : i < r.txns.length
      · have hx : r.txns[i]? = some r.txns[i] := List.getElem?_eq_getElem hlt
        generalize r.txns[i] = m at hx
        have hmm := List.mem_of_getElem? hx
        obtain ⟨ad, hix, hcv, _⟩ := cells_ld pc2_len (by omega) (kT h27.fm) hx
        have d2 : decide ((i : Int) < (r.txns.length : Int)) = true := by rw [decide_eq_true_eq]; omega
        have e1 : IntKind.i64.wrap ((i : Int) + 1) = ((i + 1 : Nat) : Int) := by rw [wrap_id] <;> omega
        simp only [RS0, RS1, RS2, RS3, RS4, RS5, d2, hix, hcv]
        refine New_any ?_
        intro x8 w8 hx8 hs8 hw8 hf8
        refine St_all hw8 rfl (pc2_len _) (by intro q hq; simp [pc2] at hq; rcases hq with rfl | rfl <;> rfl) ?_
        intro w9 hw9 hs9 hf9
        have hf79 : Fm (fun _ => False) w27 w9 := Fm.own hf8 hf9 (by rintro y rfl; omega)
        have h9 := h27.keep hf79
        have c0 : w9.cell? ⟨x8, 0, none⟩ = some (iv m.1) := by rw [cell_at hw9]; rfl
        have c1 : w9.cell? ⟨x8, 1, none⟩ = some (iv m.2) := by rw [cell_at hw9]; rfl
        simp only [RS0, RS1, RS2, RS3, RS4, RS5, c0, c1]
        obtain ⟨hm1, hm2⟩ := ntx m hmm
        refine h9.lit (bs47_2 _ _ _) rfl (by intro n hn; simp at hn; rcases hn with rfl | rfl <;> assumption) (by omega) ?_
        intro u11 w11 h11
        rw [numsB2] at h11
        simp only [RS0, RS1, RS2, RS3, RS4, RS5, e1]
        have e2 : B26 ++ (r.txns.take (i + 1)).flatMap prB = B26 ++ (r.txns.take i).flatMap prB ++ prB (m.1, m.2) := by rw [List.take_add_one, hx]; simp
        refine ⟨⟨i + 1, rfl, by omega, by rw [e2]; exact h11, ?_⟩, by simp only [nth_0]; omega⟩
        rw [e2]
        have := prB_len (p := (m.1, m.2)) hm1 hm2
        rw [List.length_append]
        omega
      have hie3 : i = r.txns.length := by omega
      subst hie3
      have d27 : decide (((r.txns.length : Nat) : Int) < (r.txns.length : Int)) = false := by simp
      rw [List.take_length] at h27 hl27
      have hl27' : (B26 ++ r.txns.flatMap prB).length ≤ 180000 := by omega
      generalize hB27 : B26 ++ r.txns.flatMap prB = B27 at h27 hl27'
      have hR27 := kR h27.fm
      simp only [RS0, RS1, RS2, RS3, RS4, RS5, d27]
      refine (bbytes_spec h27.wr.1).mono ?_
      rintro _ w30 ⟨rfl, rfl⟩
      have hbody : rBody r = B27 := by
        rw [← hB27, ← hB26, ← hB17, ← hB16, ← hB7, ← hB6, ← hB5, ← hB4]
        rfl
      have hie0 : decide (imgErr r.imgs = 0) = true := by rw [hie]; rfl
      have d9 : decide ((65535 : Int) < (B27.length : Int)) = decide (65535 < B27.length) := by rw [decide_eq_decide]; omega
      unfold rInner
      rw [hie0, cond_true, hbody]
      simp only [RS0, RS1, RS2, RS3, RS4, RS5, str_size, d9]
      cases hbig : decide (65535 < B27.length) with
      | true =>
        simp only [RS0, RS1, RS2, RS3, RS4, RS5, cond_true]
        exact ⟨(by trivial), Fmf hf1 h27.fm⟩
      | false =>
        simp only [RS0, RS1, RS2, RS3, RS4, RS5, cond_false]
        exact ⟨(by trivial), Fmf hf1 h27.fm⟩

set_option maxHeartbeats 4000000 in
theorem checked_spec {w : World} {cs : Array Value} {r : Rc} (h : RcAs w cs r) : Cl Tryz.prog 82 [.agg cs] w fun v w' => v = .tuple #[stv (rCheck r).1, iv (rCheck r).2] ∧ Fm (fun _ => False) w w' := by
  obtain ⟨vs, vm, vi, vp, vt, hcs, _, hs, hm, hi, hp, ht⟩ := h.ex
  have hk8 := h.kin
  refine c82 ?_; unfold T82
  refine New_any ?_
  intro x1 w1 hx1 hs1 hw1 hf1
  have hR1 : RB w1 x1 r vs vm vi vp vt := ⟨by rw [← hcs]; exact hw1⟩
  have h1 := h.keep hf1
  rw [hcs] at h1
  unfold rCheck
  simp only [RS0, RS1, RS2, RS3, RS4, RS5, hR1.c3]
  cases e1 : decide (r.kind < 1) with
  | true =>
    simp only [RS0, RS1, RS2, RS3, RS4, RS5, Bool.true_or, cond_true]
    exact ⟨(by trivial), hf1⟩
  | false =>
  simp only [RS0, RS1, RS2, RS3, RS4, RS5, hR1.c3, Bool.false_or]
  cases e2 : decide (13 < r.kind) with
  | true =>
    simp only [RS0, RS1, RS2, RS3, RS4, RS5, cond_true]
    exact ⟨(by trivial), hf1⟩
  | false =>
  simp only [RS0, RS1, RS2, RS3, RS4, RS5, cond_false, hR1.c0]
  cases e3 : decide (r.lsn < 1) with
  | true =>
    simp only [RS0, RS1, RS2, RS3, RS4, RS5, Bool.true_or, cond_true]
    exact ⟨(by trivial), hf1⟩
  | false =>
  simp only [RS0, RS1, RS2, RS3, RS4, RS5, hR1.all, Bool.false_or]
  refine (numbers_spec h1).mono ?_
  rintro v2 w2 ⟨ho2, hf2⟩
  refine (contains_spec (CellsAt.of_own ho2)).mono ?_
  rintro _ w3 ⟨rfl, rfl⟩
  have hF2 := Fmf hf1 hf2
  have hR2 := hR1.keep hf2 (fun e => e)
  cases e4 : (rNums r).any badN with
  | true =>
    simp only [RS0, RS1, RS2, RS3, RS4, RS5, cond_true]
    exact ⟨(by trivial), hF2⟩
  | false =>
  have m1 : decide ((512 : Int) < (r.data.length : Int)) = decide (512 < r.data.length) := by rw [decide_eq_decide]; omega
  have m2 : decide ((255 : Int) < (r.slots.length : Int)) = decide (255 < r.slots.length) := by rw [decide_eq_decide]; omega
  have m3 : decide ((255 : Int) < (r.more.length : Int)) = decide (255 < r.more.length) := by rw [decide_eq_decide]; omega
  have m4 : decide ((4 : Int) < (r.imgs.length : Int)) = decide (4 < r.imgs.length) := by rw [decide_eq_decide]; omega
  have m5 : decide ((8192 : Int) < (r.pages.length : Int)) = decide (8192 < r.pages.length) := by rw [decide_eq_decide]; omega
  have m6 : decide ((1024 : Int) < (r.txns.length : Int)) = decide (1024 < r.txns.length) := by rw [decide_eq_decide]; omega
  simp only [RS0, RS1, RS2, RS3, RS4, RS5, cond_false, hR2.c10, str_size, m1]
  have long : ∀ {w'}, longR r = true → Fm (fun _ => False) w w' → Value.tuple #[.string (ByteArray.mk #[]), .int .i64 3] = .tuple #[stv (bif longR r then (([] : Bs), (3 : Int)) else rInner r).1, iv (bif longR r then (([] : Bs), (3 : Int)) else rInner r).2] ∧ Fm (fun _ => False) w w' := fun hl hf => ⟨by rw [hl]; rfl, hf⟩
  cases q1 : decide (512 < r.data.length) with
  | true => simp only [RS0, RS1, RS2, RS3, RS4, RS5]; exact long (by simp [longR, q1]) hF2
  | false =>
  simp only [RS0, RS1, RS2, RS3, RS4, RS5, hR2.c11, hs.lenV, m2]
  cases q2 : decide (255 < r.slots.length) with
  | true => simp only [RS0, RS1, RS2, RS3, RS4, RS5]; exact long (by simp [longR, q2]) hF2
  | false =>
  simp only [RS0, RS1, RS2, RS3, RS4, RS5, hR2.c12, hm.lenV, m3]
  cases q3 : decide (255 < r.more.length) with
  | true => simp only [RS0, RS1, RS2, RS3, RS4, RS5]; exact long (by simp [longR, q3]) hF2
  | false =>
  simp only [RS0, RS1, RS2, RS3, RS4, RS5, hR2.c13, hi.lenV, m4]
  cases q4 : decide (4 < r.imgs.length) with
  | true => simp only [RS0, RS1, RS2, RS3, RS4, RS5]; exact long (by simp [longR, q4]) hF2
  | false =>
  simp only [RS0, RS1, RS2, RS3, RS4, RS5, hR2.c14, hp.lenV, m5]
  cases q5 : decide (8192 < r.pages.length) with
  | true => simp only [RS0, RS1, RS2, RS3, RS4, RS5]; exact long (by simp [longR, q5]) hF2
  | false =>
  simp only [RS0, RS1, RS2, RS3, RS4, RS5, hR2.c15, ht.lenV, m6]
  cases q6 : decide (1024 < r.txns.length) with
  | true => simp only [RS0, RS1, RS2, RS3, RS4, RS5]; exact long (by simp [longR, q6]) hF2
  | false =>
  have hl : longR r = false := by unfold longR; rw [q1, q2, q3, q4, q5, q6]; rfl
  simp only [RS0, RS1, RS2, RS3, RS4, RS5, hR2.all]
  refine (inner_spec (h1.keep hf2) hl).mono ?_
  rintro _ w4 ⟨rfl, hf4⟩
  simp only [RS0, RS1, RS2, RS3, RS4, RS5]
  refine ⟨?_, Fmf hF2 hf4⟩
  rw [hl]
  rfl
theorem rCheck_len (r : Rc) : (rCheck r).1.length ≤ 65535 := by
  unfold rCheck
  cases decide (r.kind < 1) || decide (13 < r.kind) with
  | true => simp
  | false =>
  cases decide (r.lsn < 1) || (rNums r).any badN with
  | true => simp
  | false =>
  cases longR r with
  | true => simp
  | false =>
  simp only [cond_false]
  unfold rInner
  cases decide (imgErr r.imgs = 0) with
  | false => simp
  | true =>
  cases hb : decide (65535 < (rBody r).length) with
  | true => simp
  | false =>
    rw [decide_eq_false_iff_not] at hb
    simp only [cond_true, cond_false]
    omega
set_option maxHeartbeats 1000000 in
theorem renc_spec {w : World} {cs : Array Value} {r : Rc} (h : RcAs w cs r) : Cl Tryz.prog 89 [.agg cs] w fun v w' => v = .tuple #[stv (rEnc r).1, iv (rEnc r).2] ∧ Fm (fun _ => False) w w' := by
  refine c89 ?_; unfold T89
  refine New_any ?_
  intro x1 w1 hx1 hs1 hw1 hf1
  simp only [RS0, RS1, RS2, RS3, RS4, RS5, cellsV_blk hw1 h.size]
  refine (checked_spec (h.keep hf1)).mono ?_
  rintro _ w2 ⟨rfl, hf2⟩
  have hF2 := Fmf hf1 hf2
  have hlen := rCheck_len r
  unfold rEnc
  simp only [RS0, RS1, RS2, RS3, RS4, RS5, bne_dec]
  cases hz : decide ((rCheck r).2 = 0) with
  | false =>
    simp only [RS0, RS1, RS2, RS3, RS4, RS5, cond_false]
    exact ⟨(by trivial), hF2⟩
  | true =>
  generalize (rCheck r).1 = s at hlen
  simp only [RS0, RS1, RS2, RS3, RS4, RS5, cond_true, str_size]
  refine (big_spec w2 (by omega) 4).mono ?_
  rintro _ w3 ⟨rfl, hf3⟩
  refine (sum_spec w3 s (by omega)).mono ?_
  rintro _ w4 ⟨rfl, rfl⟩
  obtain ⟨q1, q2⟩ := crc_in s
  simp only [RS0, RS1, RS2, RS3, RS4, RS5, cvI_int, q2]
  refine (big_spec w4 q1 4).mono ?_
  rintro _ w5 ⟨rfl, hf5⟩
  have g1 : bigB (s.length : Nat) 4 = beN 4 s.length := bigB_of (n := s.length) (w := 4) (by omega) (by omega)
  have g2 : bigB (crc s : Nat) 4 = beN 4 (crc s) := bigB_of (n := crc s) (w := 4) (by omega) (by omega)
  rw [g1, g2, sadd (by rw [beN_len, beN_len]; omega)]
  try simp only [RS0, RS1, RS2, RS3, RS4, RS5]
  rw [sadd (by rw [List.length_append, beN_len, beN_len]; omega)]
  try simp only [RS0, RS1, RS2, RS3, RS4, RS5]
  exact ⟨(by trivial), Fmf hF2 (Fmf hf3 hf5)⟩

end Go.Proofs.YthbngnlmgplijaaGreatDoor

namespace Go.Proofs.YthbngnlmgplijaaGreatDoor
open Go.Al Go.Proofs
set_option linter.unusedVariables false
set_option linter.unusedSimpArgs false
set_option linter.unusedSectionVars false
set_option maxRecDepth 100000

theorem rn_in (most : Int) (st : St2) : 0 ≤ (rn most st).1 ∧ (rn most st).1 ≤ max most 0 ∧ (rn most st).2.1.length ≤ st.1.length := by
  unfold rn rdNum
  cases decide (st.2 = 0) with
  | true => exact rdN_in most 9 0 0 st.1
  | false => exact ⟨Int.le_refl _, by show (0 : Int) ≤ _; omega, Nat.le_refl _⟩
theorem rt_in {most : Int} (hm : 0 ≤ most) (st : St2) : ((rt most st).1.length : Int) ≤ most ∧ (rt most st).2.1.length ≤ st.1.length := by
  have h := rn_in most st
  unfold rt
  cases decide ((rn most st).2.2 = 0) with
  | true =>
    cases hd : decide (((rn most st).2.1.length : Int) < (rn most st).1) with
    | true => simp; omega
    | false => simp only [cond_true, cond_false, List.length_take, List.length_drop]; omega
  | false => simp only [cond_false, List.length_nil]; omega
theorem rlGo_in : ∀ (n : Nat) (st : St2), (rlGo n st).1.length ≤ n ∧ (∀ x ∈ (rlGo n st).1, okN x) ∧ (rlGo n st).2.1.length ≤ st.1.length
  | 0, st => ⟨Nat.le_refl _, by simp [rlGo], Nat.le_refl _⟩
  | n + 1, st => by
    have h := rn_in 4611686018427387904 st
    have ih := rlGo_in n (rn 4611686018427387904 st).2
    have h1 : okN (rn 4611686018427387904 st).1 := ⟨h.1, by have := h.2.1; omega⟩
    unfold rlGo
    cases decide ((rn 4611686018427387904 st).2.2 = 0) with
    | true =>
      simp only [cond_true, List.length_cons]
      refine ⟨by omega, fun x hx => ?_, by omega⟩
      rcases List.mem_cons.1 hx with rfl | hx
      · exact h1
      · exact ih.2.1 x hx
    | false =>
      simp only [cond_false]
      refine ⟨by simp, fun x hx => ?_, h.2.2⟩
      obtain rfl : x = _ := by simpa using hx
      exact h1
theorem rl_in {most : Int} (hm : 0 ≤ most) (st : St2) : ((rl most st).1.length : Int) ≤ most ∧ (∀ x ∈ (rl most st).1, okN x) ∧ (rl most st).2.1.length ≤ st.1.length := by
  have h := rn_in most st
  have h2 := rlGo_in (rn most st).1.toNat (rn most st).2
  unfold rl
  exact ⟨by omega, h2.2.1, by omega⟩
theorem riGo_in : ∀ (n : Nat) (st : St2) {r : List (Int × Pg) × St2}, riGo n st = some r → r.1.length = n ∧ (∀ m ∈ r.1, okN m.1 ∧ m.2.lsn ≤ 9223372036854775807) ∧ r.2.1.length ≤ st.1.length
  | 0, st, r, h => by cases h; exact ⟨rfl, by simp, Nat.le_refl _⟩
  | n + 1, st, r, h => by
    have h0 := rn_in 4611686018427387904 st
    have h1 := rt_in (most := 512) (by omega) (rn 4611686018427387904 st).2
    unfold riGo at h
    cases hc : decide ((pDec (padZ (rt 512 (rn 4611686018427387904 st).2).1)).2 = 0) && decide ((rt 512 (rn 4611686018427387904 st).2).2.2 = 0) with
    | false => rw [hc, cond_false] at h; cases h
    | true =>
      rw [hc, cond_true, Option.map_eq_some_iff] at h
      obtain ⟨q, hq, rfl⟩ := h
      have ih := riGo_in n _ hq
      rw [Bool.and_eq_true, decide_eq_true_eq] at hc
      refine ⟨by simp only [List.length_cons]; omega, fun m hm => ?_, by simp only; omega⟩
      rcases List.mem_cons.1 hm with rfl | hm
      · exact ⟨⟨h0.1, by have := h0.2.1; simp only; omega⟩, (enc_dec hc.1).2.2⟩
      · exact ih.2.1 m hm
theorem rpGo_in : ∀ (n : Nat) (st : St2) {r : List (Int × Int) × St2}, rpGo n st = some r → r.1.length = n ∧ (∀ m ∈ r.1, okN m.1 ∧ okN m.2) ∧ r.2.1.length ≤ st.1.length
  | 0, st, r, h => by cases h; exact ⟨rfl, by simp, Nat.le_refl _⟩
  | n + 1, st, r, h => by
    have h0 := rn_in 4611686018427387904 st
    have h1 := rn_in 4611686018427387904 (rn 4611686018427387904 st).2
    unfold rpGo at h
    cases hc : decide (st.2 = 0) with
    | false => rw [hc, cond_false] at h; cases h
    | true =>
      rw [hc, cond_true, Option.map_eq_some_iff] at h
      obtain ⟨q, hq, rfl⟩ := h
      have ih := rpGo_in n _ hq
      refine ⟨by simp only [List.length_cons]; omega, fun m hm => ?_, by simp only; omega⟩
      rcases List.mem_cons.1 hm with rfl | hm
      · exact ⟨⟨h0.1, by have := h0.2.1; simp only; omega⟩, ⟨h1.1, by have := h1.2.1; simp only; omega⟩⟩
      · exact ih.2.1 m hm
structure Bnd (r : Rc) : Prop where
  nums : ∀ n ∈ rNums r, okN n
  kind : 0 ≤ r.kind ∧ r.kind ≤ 13
  data : r.data.length ≤ 512
  slots : r.slots.length ≤ 255
  more : r.more.length ≤ 255
  imgs : r.imgs.length ≤ 4
  pages : r.pages.length ≤ 8192
  txns : r.txns.length ≤ 1024
  lsns : ∀ m ∈ r.imgs, m.2.lsn ≤ 9223372036854775807
theorem mem_prs2 {l : List (Int × Int)} {n : Int} (h : n ∈ prs l) : ∃ p ∈ l, n = p.1 ∨ n = p.2 := by
  unfold prs at h
  obtain ⟨p, hp, hn⟩ := List.mem_flatMap.1 h
  simp at hn
  exact ⟨p, hp, hn⟩
theorem tail_in {a : List Int} {st : St2} {x : Rc} (h : tailP a st = some x) (ha : ∀ i, i < 10 → i ≠ 3 → okN (gI a i)) (hk : 0 ≤ gI a 3 ∧ gI a 3 ≤ 13) : Bnd x := by
  unfold tailP at h
  have t1 := rt_in (most := 512) (by omega) st
  have t2 := rl_in (most := 255) (by omega) (rt 512 st).2
  have t3 := rl_in (most := 255) (by omega) (rl 255 (rt 512 st).2).2
  have t4 := rn_in 4 (rl 255 (rl 255 (rt 512 st).2).2).2
  simp only at h
  rw [Option.bind_eq_some_iff] at h
  obtain ⟨im, h1, h⟩ := h
  rw [Option.bind_eq_some_iff] at h
  obtain ⟨pg, h2, h⟩ := h
  rw [Option.bind_eq_some_iff] at h
  obtain ⟨tx, h3, h⟩ := h
  have t5 := rn_in 8192 im.2
  have t6 := rn_in 1024 pg.2
  have u1 := riGo_in _ _ h1
  have u2 := rpGo_in _ _ h2
  have u3 := rpGo_in _ _ h3
  cases he : decide (endE tx.2.1 tx.2.2 = 0) with
  | false => rw [he, cond_false] at h; cases h
  | true =>
    rw [he, cond_true] at h
    cases h
    refine ⟨fun n hn => ?_, hk, by simp only; omega, by simp only; omega, by simp only; omega, by simp only; omega, by simp only; omega, by simp only; omega, fun m hm => (u1.2.1 m hm).2⟩
    unfold rNums at hn
    simp only [List.mem_append] at hn
    rcases hn with ((((hn | hn) | hn) | hn) | hn) | hn
    · simp only [List.mem_cons, List.not_mem_nil, or_false] at hn
      rcases hn with rfl | rfl | rfl | rfl | rfl | rfl | rfl | rfl | rfl <;> exact ha _ (by omega) (by omega)
    · exact t2.2.1 n hn
    · exact t3.2.1 n hn
    · obtain ⟨m, hm, rfl⟩ := List.mem_map.1 hn
      exact (u1.2.1 m hm).1
    · obtain ⟨p, hp, e | e⟩ := mem_prs2 hn <;> rw [e]
      · exact (u2.2.1 p hp).1
      · exact (u2.2.1 p hp).2
    · obtain ⟨p, hp, e | e⟩ := mem_prs2 hn <;> rw [e]
      · exact (u3.2.1 p hp).1
      · exact (u3.2.1 p hp).2

/-! ### The reader's texts and lists -/
theorem rnum_spec {w : World} {rb : Nat} {st : St2} (h : RdAt w rb st.1 st.2) (hs : st.1.length ≤ 1000000) {most : Int} (hm : most ≤ 9223372036854775807) : Cl Tryz.prog 150 [pv rb, iv most] w fun v w' => v = iv (rn most st).1 ∧ RdAt w' rb (rn most st).2.1 (rn most st).2.2 ∧ Fm (· = rb) w w' :=
  bnum_spec h most (by omega) hm
set_option maxHeartbeats 1000000 in
theorem rtext_spec {w : World} {rb : Nat} {st : St2} (h : RdAt w rb st.1 st.2) (hs : st.1.length ≤ 1000000) {most : Int} (hm : most ≤ 9223372036854775807) : Cl Tryz.prog 151 [pv rb, iv most] w fun v w' => v = stv (rt most st).1 ∧ RdAt w' rb (rt most st).2.1 (rt most st).2.2 ∧ Fm (· = rb) w w' := by
  refine c151 ?_; unfold T151
  refine (rnum_spec h hs hm).mono ?_
  have hin := rn_in most st
  unfold rt
  rintro _ w1 ⟨rfl, h1, hf1⟩
  generalize (rn most st).1 = n at hin ⊢
  generalize (rn most st).2 = st1 at hin h1
  simp only [RS0, RS1, RS2, RS3, RS4, RS5, h1.c1, bne_dec]
  cases hz : decide (st1.2 = 0) with
  | false =>
    simp only [RS0, RS1, RS2, RS3, RS4, RS5, cond_false]
    exact ⟨(by trivial), h1, hf1⟩
  | true =>
    obtain ⟨j, rfl⟩ := Int.eq_ofNat_of_zero_le hin.1
    simp only [RS0, RS1, RS2, RS3, RS4, RS5, cond_true, h1.c0, str_size, Int.toNat_natCast]
    cases hd : decide ((st1.1.length : Int) < (j : Int)) with
    | true =>
      simp only [RS0, RS1, RS2, RS3, RS4, RS5, cond_true]
      refine (bfail_spec h1 10).mono ?_
      rintro _ w2 ⟨rfl, h2, hf2⟩
      try simp only [RS0, RS1, RS2, RS3, RS4, RS5]
      exact ⟨(by trivial), h2, hf1.trans hf2 (fun _ _ e => e) (fun _ _ e => e)⟩
    | false =>
      rw [decide_eq_false_iff_not] at hd
      have s1 := slS_hi (l := st1.1) (i := j) (by omega) .i64
      have s2 := slS_lo (l := st1.1) (i := j) (by omega) .i64
      simp only [RS0, RS1, RS2, RS3, RS4, RS5, cond_false, h1.c0, s1, s2]
      refine St_blk h1 (by show 0 < 2; decide) rfl ?_
      intro w2 hw2 hs2 hf2
      rw [decide_eq_true_eq] at hz
      refine ⟨(by trivial), ?_, hf1.trans hf2 (fun _ _ e => e) (fun _ _ e => e)⟩
      have : RdAt w2 rb (st1.1.drop j) st1.2 := hw2
      rw [hz] at this
      exact this
set_option maxHeartbeats 2000000 in
theorem rlist_spec {w : World} {rb : Nat} {st : St2} (h : RdAt w rb st.1 st.2) (hs : st.1.length ≤ 1000000) : Cl Tryz.prog 152 [pv rb, iv 255] w fun v w' => w'.ownsRow w.heap.size 3 1 v (rl 255 st).1.length ((rl 255 st).1.map iv) ∧ RdAt w' rb (rl 255 st).2.1 (rl 255 st).2.2 ∧ Fm (· = rb) w w' := by
  refine c152 ?_; unfold T152
  refine Jn_at (fun vs w' => ∃ v, vs = [v] ∧ w'.ownsRow w.heap.size 3 1 v (rl 255 st).1.length ((rl 255 st).1.map iv) ∧ RdAt w' rb (rl 255 st).2.1 (rl 255 st).2.2 ∧ Fm (· = rb) w w') ?_ ?_
  · rintro _ w' ⟨v, rfl, g⟩ _
    exact ⟨v, rfl, g⟩
  · intro jj hjj
    refine (rnum_spec h hs (by omega)).mono ?_
    have hin := rn_in 255 st
    unfold rl at hjj
    rintro _ w1 ⟨rfl, h1, hf1⟩
    generalize (rn 255 st).1 = n at hin hjj ⊢
    generalize (rn 255 st).2 = st1 at hin h1 hjj
    obtain ⟨N, rfl⟩ := Int.eq_ofNat_of_zero_le hin.1
    rw [Int.toNat_natCast] at hjj
    have hz1 := hf1.size
    refine ⟨fun vs w' => ∃ (i : Nat) (v : Value) (L : List Int) (st2 : St2), vs = [v, iv i] ∧ i ≤ N ∧ L.length = i ∧ w'.ownsRow w.heap.size 3 1 v L.length (L.map iv) ∧ RdAt w' rb st2.1 st2.2 ∧ st2.1.length ≤ 1000000 ∧ rlGo N st1 = (L ++ (rlGo (N - i) st2).1, (rlGo (N - i) st2).2) ∧ Fm (· = rb) w w', fun vs _ => (N - nth vs 1).toNat, ⟨0, _, [], st1, rfl, by omega, rfl, World.ownsRow_nil _ _ _ _, h1, by omega, rfl, hf1⟩, ?_⟩
    rintro _ w2 v iv2 ⟨i, v0, L, st2, hvs, hi, hL, ho2, h2, hl2, heq, hf2⟩
    cases hvs
    have hz2 := hf2.size
    by_cases hlt : i < N
    · have d1 : decide ((i : Int) < (N : Int)) = true := by rw [decide_eq_true_eq]; omega
      have e1 : IntKind.i64.wrap ((i : Int) + 1) = ((i + 1 : Nat) : Int) := by rw [wrap_id] <;> omega
      obtain ⟨m, hm⟩ : ∃ m, N - i = m + 1 := ⟨N - i - 1, by omega⟩
      have hm1 : N - (i + 1) = m := by omega
      simp only [RS0, RS1, RS2, RS3, RS4, RS5, d1]
      refine (rnum_spec h2 hl2 (by omega)).mono ?_
      rw [hm, rlGo] at heq
      have hin2 := rn_in 4611686018427387904 st2
      rintro _ w3 ⟨rfl, h3, hf3⟩
      generalize (rn 4611686018427387904 st2).1 = x at heq hin2 ⊢
      generalize (rn 4611686018427387904 st2).2 = st3 at heq hin2 h3
      have hF3 : Fm (· = rb) w w3 := hf2.trans hf3 (fun _ _ e => e) (fun _ _ e => e)
      have hz3 := hF3.size
      have hrd : RdAt w2 rb st2.1 st2.2 := h2
      have hrbne : ∀ k, v.ownBlock = some k → k ≠ rb := by
        intro k hk e
        rcases ho2.2 with ⟨rfl, _⟩ | ⟨g, cap, cur, rfl, _, hg, _⟩
        · cases hk
        · have e1 : g = k := by simpa [Value.ownBlock] using hk
          rw [e1, e] at hg
          have hq : w2.heap[rb]? = _ := hrd
          rw [hq] at hg; cases hg
      have ho3 := own_keep ho2 hf3 (fun k _ _ hk e => hrbne k hk e)
      refine row_lit ho3 (bs47_1 _ _) rfl (by omega) hz3 ?_
      intro v4 w4 ho4 hf4
      have hrl := h.lt
      have h4 := h3.keep hf4 (fun e => by omega)
      have hF4 : Fm (· = rb) w w4 := hF3.trans hf4 (fun _ _ e => e) (fun y hy e => by omega)
      refine (berr_spec h4).mono ?_
      rintro _ w5 ⟨rfl, rfl⟩
      simp only [RS0, RS1, RS2, RS3, RS4, RS5, bne_dec]
      cases hz : decide (st3.2 = 0) with
      | false =>
        rw [hz, cond_false] at heq
        simp only [RS0, RS1, RS2, RS3, RS4, RS5]
        refine hjj _ _ ⟨v4, rfl, ?_⟩
        rw [heq]
        exact ⟨ho4, h4, hF4⟩
      | true =>
        rw [hz, cond_true] at heq
        simp only [RS0, RS1, RS2, RS3, RS4, RS5, e1]
        refine ⟨⟨i + 1, v4, L ++ [x], st3, rfl, by omega, by rw [List.length_append, hL]; rfl, ho4, h4, by omega, ?_, hF4⟩, by simp only [nth_1]; omega⟩
        rw [heq, hm1]
        simp
    · have hie : i = N := by omega
      subst hie
      have d1 : decide ((i : Int) < (i : Int)) = false := by simp
      rw [Nat.sub_self, rlGo] at heq
      simp only [List.append_nil] at heq
      simp only [RS0, RS1, RS2, RS3, RS4, RS5, d1]
      refine hjj _ _ ⟨v, rfl, ?_⟩
      rw [heq]
      exact ⟨ho2, h2, hf2⟩

/-- One more, and where it lies. -/
theorem app_fine {w : World} {base n bytes sz : Nat} {t e : TypeId} {v : Value} {xs : List Value} (E : ElemT Tryz.prog t e sz bytes) (hsz : 0 < sz) (h : w.ownsRow base e sz v n xs) {b : Nat} {cs : List Value} (hb : w.heap[b]? = some (.cells cs.toArray e)) (hcs : cs.length = sz) (h1 : ∀ u ∈ cs, u.oneCell' = true) (hn : (n + 1) * bytes ≤ 140737488355328) (h63 : n + 1 ≤ maxLen) (hbs : base ≤ w.heap.size) :
    ∃ v' w', (Builtin.append_ #[t, t] t #[v, .slice (some ⟨b, 0, none⟩) 1 1]).run Tryz.prog w = .ok v' w' ∧ w'.ownsRow base e sz v' (n + 1) (xs ++ cs) ∧ (∀ y, v'.ownBlock = some y → v.ownBlock = some y ∨ w.heap.size ≤ y) ∧ Fm (fun y => v.ownBlock = some y) w w' := by
  obtain ⟨v', w', hr, ho, hc⟩ := append_fine E hsz h t ⟨b, 0, none⟩ 1 1 (by omega) cs (by omega) (fun j u hj => by rw [add_none, Nat.zero_add, cell_at hb]; simpa using hj) h1 h63 hn hbs
  refine ⟨v', w', hr, ho, ?_⟩
  rcases hc with ⟨g, e1, e2, e3⟩ | ⟨g, e1, e2, e3⟩
  · exact ⟨fun y hy => .inl (by rw [e1, ← e2]; exact hy), e3.mono (fun y _ e => by rw [e]; exact e1)⟩
  · exact ⟨fun y hy => .inr (by rw [e1] at hy; cases hy; exact e2), e3.mono (fun _ _ e => e.elim)⟩


end Go.Proofs.YthbngnlmgplijaaGreatDoor

namespace Go.Proofs.YthbngnlmgplijaaGreatDoor
open Go.Al Go.Proofs
set_option linter.unusedVariables false
set_option linter.unusedSimpArgs false
set_option linter.unusedSectionVars false
set_option maxRecDepth 100000

abbrev nl : Value := .slice none 0 0
def rc0 : Rc := ⟨0, 0, 0, 0, 0, 0, 0, 0, 0, 0, [], [], [], [], [], []⟩
theorem rcs_one {r : Rc} {vs vm vi vp vt : Value} (h1 : vs.oneCell' = true) (h2 : vm.oneCell' = true) (h3 : vi.oneCell' = true) (h4 : vp.oneCell' = true) (h5 : vt.oneCell' = true) : ∀ u ∈ (rcs r vs vm vi vp vt).toList, u.oneCell' = true := by
  intro u hu
  simp [rcs] at hu
  rcases hu with rfl | rfl | rfl | rfl | rfl | rfl | rfl | rfl | rfl | rfl | rfl | rfl | rfl | rfl | rfl | rfl <;> first | rfl | assumption
theorem bld52z (w : World) : (Instr.build 28 #[]).run Tryz.prog w = .ok (.agg (rcs rc0 nl nl nl nl nl)) w := by kernel_rfl
theorem agg52 : aggB Tryz.prog 28 = some true := by kernel_rfl
theorem size52 : sizeB Tryz.prog 28 = some 16 := by kernel_rfl
theorem Er48 : ElemT Tryz.prog 24 118 7 80 := elemT_of Tryz.underlying24 (by kernel_rfl)
theorem Er49 : ElemT Tryz.prog 25 120 2 16 := elemT_of Tryz.underlying25 (by kernel_rfl)
theorem Er50 : ElemT Tryz.prog 26 122 2 16 := elemT_of Tryz.underlying26 (by kernel_rfl)
theorem bld90 (m : Int) (p : Pg) (a : Option Addr) (n c : Nat) (w : World) : (Instr.build 118 #[(0, iv m), (1, .agg (pcs p (.slice a n c)))]).run Tryz.prog w = .ok (.agg (imC (m, p, .slice a n c)).toArray) w := by kernel_rfl
theorem bs48 (m : Int) (p : Pg) (a : Option Addr) (n c : Nat) (w : World) : (Instr.buildSlice 24 1 #[(0, .agg (imC (m, p, .slice a n c)).toArray)]).run Tryz.prog w = .ok (.slice (some ⟨w.heap.size, 0, none⟩) 1 1) (w.alloc (.cells (imC (m, p, .slice a n c)).toArray 118)) := by kernel_rfl
theorem bld96 (a b : Int) (w : World) : (Instr.build 120 #[(0, iv a), (1, iv b)]).run Tryz.prog w = .ok (.agg (pc2 (a, b)).toArray) w := by kernel_rfl
theorem bld99 (a b : Int) (w : World) : (Instr.build 122 #[(0, iv a), (1, iv b)]).run Tryz.prog w = .ok (.agg (pc2 (a, b)).toArray) w := by kernel_rfl
theorem bs49 (a b : Int) (w : World) : (Instr.buildSlice 25 1 #[(0, .agg (pc2 (a, b)).toArray)]).run Tryz.prog w = .ok (.slice (some ⟨w.heap.size, 0, none⟩) 1 1) (w.alloc (.cells (pc2 (a, b)).toArray 120)) := by kernel_rfl
theorem bs50 (a b : Int) (w : World) : (Instr.buildSlice 26 1 #[(0, .agg (pc2 (a, b)).toArray)]).run Tryz.prog w = .ok (.slice (some ⟨w.heap.size, 0, none⟩) 1 1) (w.alloc (.cells (pc2 (a, b)).toArray 122)) := by kernel_rfl

/-- What is in the heap while a body is read. -/
structure HS (w0 w : World) (x2 rb r4 x5 : Nat) (st : St2) (r : Rc) (vs vm vi vp vt : Value) : Prop where
  res : w.heap[x2]? = some (.cells (rcs rc0 nl nl nl nl nl) 28)
  rd : RdAt w rb st.1 st.2
  rp : w.heap[r4]? = some (.cells #[pv rb] 181)
  x : RB w x5 r vs vm vi vp vt
  fm : Fm (fun _ => False) w0 w
  o1 : w0.heap.size ≤ x2
  o2 : x2 < rb
  o3 : rb < r4
  o4 : r4 < x5
  len : st.1.length ≤ 1000000
section
variable {w0 w w' : World} {x2 rb r4 x5 : Nat} {st : St2} {r : Rc} {vs vm vi vp vt : Value}
theorem HS.keepG {S : Nat → Prop} (h : HS w0 w x2 rb r4 x5 st r vs vm vi vp vt) (hf : Fm S w w') (hS : ∀ y, S y → x5 < y) : HS w0 w' x2 rb r4 x5 st r vs vm vi vp vt := by
  have := h.o1
  have := h.o2
  have := h.o3
  have := h.o4
  have hn : ∀ y, y ≤ x5 → ¬ S y := fun y hy e => by have := hS y e; omega
  exact ⟨hf.heap h.res (hn _ (by omega)), h.rd.keep hf (hn _ (by omega)), hf.heap h.rp (hn _ (by omega)), h.x.keep hf (hn _ (by omega)), Fm.own h.fm hf (fun y hy => by have := hS y hy; omega), h.o1, h.o2, h.o3, h.o4, h.len⟩
theorem HS.rdr (h : HS w0 w x2 rb r4 x5 st r vs vm vi vp vt) {st' : St2} (hr : RdAt w' rb st'.1 st'.2) (hf : Fm (· = rb) w w') (hl : st'.1.length ≤ st.1.length) : HS w0 w' x2 rb r4 x5 st' r vs vm vi vp vt := by
  have := h.o1
  have := h.o2
  have := h.o3
  have := h.o4
  have := h.len
  exact ⟨hf.heap h.res (by omega), hr, hf.heap h.rp (by omega), h.x.keep hf (by omega), Fm.own h.fm hf (by rintro y rfl; omega), h.o1, h.o2, h.o3, h.o4, by omega⟩
theorem HS.cp (h : HS w0 w x2 rb r4 x5 st r vs vm vi vp vt) : w.cell? ⟨r4, 0, none⟩ = some (pv rb) := by rw [cell_at h.rp]; rfl
theorem HS.numk (h : HS w0 w x2 rb r4 x5 st r vs vm vi vp vt) {most : Int} (hm : most ≤ 9223372036854775807) {k : KV} (hk : ∀ w', HS w0 w' x2 rb r4 x5 (rn most st).2 r vs vm vi vp vt → Fm (· = rb) w w' → k (iv (rn most st).1) w') : Cl Tryz.prog 150 [pv rb, iv most] w k := by
  refine (rnum_spec h.rd h.len hm).mono ?_
  rintro _ w' ⟨rfl, h1, hf⟩
  exact hk w' (h.rdr h1 hf (rn_in most st).2.2) hf
theorem HS.num (h : HS w0 w x2 rb r4 x5 st r vs vm vi vp vt) {k : KV} (hk : ∀ w', HS w0 w' x2 rb r4 x5 (rn 4611686018427387904 st).2 r vs vm vi vp vt → Fm (· = rb) w w' → k (iv (rn 4611686018427387904 st).1) w') : ClV Tryz.prog (.func (.func 149) #[] #[pv r4]) [] w k := by
  refine ClV_func (by kernel_rfl) ?_
  show Cl Tryz.prog 149 [pv r4] w k
  refine c149 ?_; unfold T149
  simp only [RS0, RS1, RS2, RS3, RS4, RS5, h.cp]
  refine h.numk (by omega) ?_
  intro w' h' hf
  exact hk w' h' hf
theorem HS.text (h : HS w0 w x2 rb r4 x5 st r vs vm vi vp vt) {k : KV} (hk : ∀ w', HS w0 w' x2 rb r4 x5 (rt 512 st).2 r vs vm vi vp vt → Fm (· = rb) w w' → k (stv (rt 512 st).1) w') : Cl Tryz.prog 151 [pv rb, iv 512] w k := by
  refine (rtext_spec h.rd h.len (by omega)).mono ?_
  rintro _ w' ⟨rfl, h1, hf⟩
  exact hk w' (h.rdr h1 hf (rt_in (by omega) st).2) hf
theorem HS.list (h : HS w0 w x2 rb r4 x5 st r vs vm vi vp vt) {k : KV} (hk : ∀ v w', HS w0 w' x2 rb r4 x5 (rl 255 st).2 r vs vm vi vp vt → w'.ownsRow w.heap.size 3 1 v (rl 255 st).1.length ((rl 255 st).1.map iv) → Fm (· = rb) w w' → k v w') : Cl Tryz.prog 152 [pv rb, iv 255] w k := by
  refine (rlist_spec h.rd h.len).mono ?_
  rintro v w' ⟨ho, h1, hf⟩
  exact hk v w' (h.rdr h1 hf (rl_in (by omega) st).2.2) ho hf
theorem HS.put (h : HS w0 w x2 rb r4 x5 st r vs vm vi vp vt) {j : Nat} {u : Value} {r' : Rc} {vs' vm' vi' vp' vt' : Value} (hj : j < 16) (hu : u.oneCell' = true) (e : (rcs r vs vm vi vp vt).setIfInBounds j u = rcs r' vs' vm' vi' vp' vt') {k : KV}
    (hk : ∀ w', HS w0 w' x2 rb r4 x5 st r' vs' vm' vi' vp' vt' → Fm (· = x5) w w' → k undef w') : St 1 w (.pointer (some ⟨x5, j, none⟩)) u k := by
  have := h.o1
  have := h.o2
  have := h.o3
  have := h.o4
  refine St_blk h.x.h (by show j < 16; exact hj) hu ?_
  intro w' hw' hs' hf'
  rw [e] at hw'
  exact hk w' ⟨hf'.heap h.res (by omega), h.rd.keep hf' (by omega), hf'.heap h.rp (by omega), ⟨hw'⟩, Fm.own h.fm hf' (by rintro y rfl; omega), h.o1, h.o2, h.o3, h.o4, h.len⟩ hf'
/-- What is returned. -/
theorem HS.ret (h : HS w0 w x2 rb r4 x5 st r vs vm vi vp vt) (hone : ∀ u ∈ (rcs r vs vm vi vp vt).toList, u.oneCell' = true) (b : Bool) {k : KV} (hk : ∀ w', Fm (· = x2) w w' → k (.tuple #[.agg (rcs r vs vm vi vp vt), .bool b]) w') :
    St 16 w (.pointer (some ⟨x2, 0, none⟩)) (.agg (rcs r vs vm vi vp vt)) fun u_168 w_169 =>
        RetO (resL Tryz.prog (fun j => bif Nat.beq j 2 then .pointer (some ⟨x2, 0, none⟩) else bif Nat.beq j 3 then (Value.bool b) else undef) w_169 [(ResultVar.cell 2 28), (ResultVar.tmp 3)]) w_169 k := by
  refine St_all h.res rfl rfl hone ?_
  intro w' hw' hs' hf'
  have hj' : resV Tryz.prog (fun j => bif Nat.beq j 2 then .pointer (some ⟨x2, 0, none⟩) else bif Nat.beq j 3 then (Value.bool b) else undef) w' (.tmp 3) = some (.bool b) := rfl
  simp only [resL, resV_blk (f := (fun j => bif Nat.beq j 2 then .pointer (some ⟨x2, 0, none⟩) else bif Nat.beq j 3 then (Value.bool b) else undef)) (a := 2) rfl agg52 size52 hw' rfl, hj', RetO, RetV]
  exact hk w' hf'
end
/-- The lists of a record, the call's own. -/
structure Rows (w : World) (b : Nat) (r : Rc) (vs vm vi vp vt : Value) : Prop where
  hs : w.ownsRow b 3 1 vs r.slots.length (r.slots.map iv)
  hm : w.ownsRow b 3 1 vm r.more.length (r.more.map iv)
  hi : ∃ X : List (Int × Pg × Value), X.map (fun x => (x.1, x.2.1)) = r.imgs ∧ w.ownsRow b 118 7 vi X.length (X.flatMap imC) ∧ ∀ x ∈ X, x.2.2.oneCell' = true ∧ w.ownsRow b 9 1 x.2.2 x.2.1.items.length (x.2.1.items.map stv) ∧ PgAs w (pcs x.2.1 x.2.2) x.2.1
  hp : w.ownsRow b 120 2 vp r.pages.length (r.pages.flatMap pc2)
  ht : w.ownsRow b 122 2 vt r.txns.length (r.txns.flatMap pc2)
section
variable {w w' : World} {b : Nat} {r : Rc} {vs vm vi vp vt : Value}
theorem pgas_own {p : Pg} {v : Value} (ho : w'.ownsRow b 9 1 v p.items.length (p.items.map stv)) (h : PgAs w (pcs p v) p) : PgAs w' (pcs p v) p := ⟨⟨v, rfl, own_one ho, CellsAt.of_own ho⟩, h.small, h.ins⟩
theorem Rows.keep {S : Nat → Prop} (h : Rows w b r vs vm vi vp vt) (hf : Fm S w w') (hS : ∀ y, S y → y < b) : Rows w' b r vs vm vi vp vt := by
  have hn : ∀ k, b ≤ k → ¬ S k := fun k hk e => by have := hS k e; omega
  obtain ⟨X, h1, h2, h3⟩ := h.hi
  exact ⟨own_keep h.hs hf (fun k hk _ _ => hn k hk), own_keep h.hm hf (fun k hk _ _ => hn k hk), ⟨X, h1, own_keep h2 hf (fun k hk _ _ => hn k hk), fun x hx => by
    obtain ⟨q1, q2, q3⟩ := h3 x hx
    have q4 := own_keep q2 hf (fun k hk _ _ => hn k hk)
    exact ⟨q1, q4, pgas_own q4 q3⟩⟩, own_keep h.hp hf (fun k hk _ _ => hn k hk), own_keep h.ht hf (fun k hk _ _ => hn k hk)⟩
theorem Rows.one (h : Rows w b r vs vm vi vp vt) : ∀ u ∈ (rcs r vs vm vi vp vt).toList, u.oneCell' = true := by
  obtain ⟨X, h1, h2, h3⟩ := h.hi
  exact rcs_one (own_one h.hs) (own_one h.hm) (own_one h2) (own_one h.hp) (own_one h.ht)
theorem Rows.asR (h : Rows w b r vs vm vi vp vt) (hb : Bnd r) : RcAs w (rcs r vs vm vi vp vt) r := by
  obtain ⟨X, h1, h2, h3⟩ := h.hi
  refine ⟨⟨vs, vm, vi, vp, vt, rfl, ⟨own_one h.hs, own_one h.hm, own_one h2, own_one h.hp, own_one h.ht⟩, CellsAt.of_own h.hs, CellsAt.of_own h.hm, ⟨X, h1, CellsAt.of_own h2, fun x hx => ⟨(h3 x hx).1, (h3 x hx).2.2⟩⟩, CellsAt.of_own h.hp, CellsAt.of_own h.ht⟩, fun n hn => ?_, ?_, ?_, ?_, hb.lsns⟩
  · have := hb.nums n hn
    unfold okN at this
    unfold In; omega
  · have := hb.kind; omega
  · have := hb.data; omega
  · have := hb.slots
    have := hb.more
    have := hb.imgs
    have := hb.pages
    have := hb.txns
    omega
end
def tailI (a : List Int) (t : Bs) (sl mo : List Int) (im : List (Int × Pg)) (pg tx : List (Int × Int)) (st : St2) : Option Rc := bif decide (endE st.1 st.2 = 0) then some ⟨gI a 0, gI a 1, gI a 2, gI a 3, gI a 4, gI a 5, gI a 6, gI a 7, gI a 8, gI a 9, t, sl, mo, im, pg, tx⟩ else none
def tailH (a : List Int) (t : Bs) (sl mo : List Int) (im : List (Int × Pg)) (pg : List (Int × Int) × St2) : Option Rc := (rpGo (rn 1024 pg.2).1.toNat (rn 1024 pg.2).2).bind fun tx => tailI a t sl mo im pg.1 tx.1 tx.2
def tailG (a : List Int) (t : Bs) (sl mo : List Int) (im : List (Int × Pg) × St2) : Option Rc := (rpGo (rn 8192 im.2).1.toNat (rn 8192 im.2).2).bind (tailH a t sl mo im.1)
theorem tail_eq (a : List Int) (st : St2) : tailP a st = (riGo (rn 4 (rl 255 (rl 255 (rt 512 st).2).2).2).1.toNat (rn 4 (rl 255 (rl 255 (rt 512 st).2).2).2).2).bind (tailG a (rt 512 st).1 (rl 255 (rt 512 st).2).1 (rl 255 (rl 255 (rt 512 st).2).2).1) := rfl
theorem outer_in {s : Bs} {x : Rc} (h : outerP s = some x) : Bnd x := by
  unfold outerP at h
  refine tail_in h (fun i hi h3 => ?_) ?_
  · simp only [ten]
    have q : ∀ st, okN (rn 4611686018427387904 st).1 := fun st => ⟨(rn_in _ st).1, by have := (rn_in 4611686018427387904 st).2.1; omega⟩
    have : i = 0 ∨ i = 1 ∨ i = 2 ∨ i = 4 ∨ i = 5 ∨ i = 6 ∨ i = 7 ∨ i = 8 ∨ i = 9 := by omega
    rcases this with rfl | rfl | rfl | rfl | rfl | rfl | rfl | rfl | rfl <;> exact q _
  · simp only [ten]
    have q : ∀ st, 0 ≤ (rn 13 st).1 ∧ (rn 13 st).1 ≤ 13 := fun st => ⟨(rn_in _ st).1, by have := (rn_in 13 st).2.1; omega⟩
    exact q _

set_option maxHeartbeats 32000000 in
theorem outer_spec (w : World) (s : Bs) (hs : s.length ≤ 1000000) : Cl Tryz.prog 81 [stv s] w fun v w' => ∃ cs ok, v = .tuple #[.agg cs, .bool ok] ∧ cs.size = 16 ∧ (∀ u ∈ cs.toList, u.oneCell' = true) ∧ (ok = false → outerP s = none) ∧ (ok = true → ∃ x vs vm vi vp vt, outerP s = some x ∧ cs = rcs x vs vm vi vp vt ∧ Rows w' w.heap.size x vs vm vi vp vt) ∧ Fm (fun _ => False) w w' := by
  refine c81 ?_; unfold T81
  refine New_any ?_
  intro x2 w1 hx2 hs1 hw1 hf1
  refine (bread_spec w1 s).mono ?_
  rintro _ w2 ⟨rb, rfl, hrb, hrd, hf2⟩
  have hz2 := hf2.size
  have hrl := hrd.lt
  refine New_any ?_
  intro r4 w3 hr4 hs3 hw3 hf3
  refine St_blk hw3 (by show 0 < 1; decide) rfl ?_
  intro w4 hw4 hs4 hf4
  refine New_any ?_
  intro x5 w5 hx5 hs5 hw5 hf5
  have hf35 : Fm (fun _ => False) w2 w5 := Fmf (Fm.own hf3 hf4 (by rintro y rfl; omega)) hf5
  have h0 : HS w w5 x2 rb r4 x5 (s, 0) rc0 nl nl nl nl nl := ⟨(Fmf hf2 hf35).heap hw1 (fun e => e), hrd.keep hf35 (fun e => e), hf5.heap hw4 (fun e => e), ⟨hw5⟩, Fmf hf1 (Fmf hf2 hf35), by omega, by omega, by omega, by omega, hs⟩
  have hr0 : Rows w5 (x5 + 1) rc0 nl nl nl nl nl := ⟨World.ownsRow_nil _ _ _ _, World.ownsRow_nil _ _ _ _, ⟨[], rfl, World.ownsRow_nil _ _ _ _, by simp⟩, World.ownsRow_nil _ _ _ _, World.ownsRow_nil _ _ _ _⟩
  have hx5l := h0.x.lt
  clear hw1 hrd hw3 hw4 hw5 hr0
  refine h0.num ?_
  intro w6 h6a hq6
  have i0 := rn_in 4611686018427387904 (s, 0)
  generalize e0 : rn 4611686018427387904 (s, 0) = a0 at h6a i0 ⊢
  refine h6a.num ?_
  intro w7 h7a hq7
  have i1 := rn_in 4611686018427387904 a0.2
  generalize e1 : rn 4611686018427387904 a0.2 = a1 at h7a i1 ⊢
  refine h7a.num ?_
  intro w8 h8a hq8
  have i2 := rn_in 4611686018427387904 a1.2
  generalize e2 : rn 4611686018427387904 a1.2 = a2 at h8a i2 ⊢
  try simp only [RS0, RS1, RS2, RS3, RS4, RS5]
  refine h8a.put (j := 0) (r' := ⟨a0.1, 0, 0, 0, 0, 0, 0, 0, 0, 0, [], [], [], [], [], []⟩) (vs' := nl) (vm' := nl) (vi' := nl) (vp' := nl) (vt' := nl) (by omega) rfl rfl ?_
  intro w9 h9a hq9
  try simp only [RS0, RS1, RS2, RS3, RS4, RS5]
  refine h9a.put (j := 1) (r' := ⟨a0.1, a1.1, 0, 0, 0, 0, 0, 0, 0, 0, [], [], [], [], [], []⟩) (vs' := nl) (vm' := nl) (vi' := nl) (vp' := nl) (vt' := nl) (by omega) rfl rfl ?_
  intro w10 h10a hq10
  try simp only [RS0, RS1, RS2, RS3, RS4, RS5]
  refine h10a.put (j := 2) (r' := ⟨a0.1, a1.1, a2.1, 0, 0, 0, 0, 0, 0, 0, [], [], [], [], [], []⟩) (vs' := nl) (vm' := nl) (vi' := nl) (vp' := nl) (vt' := nl) (by omega) rfl rfl ?_
  intro w11 h11a hq11
  simp only [RS0, RS1, RS2, RS3, RS4, RS5, h11a.cp]
  refine h11a.numk (by omega) ?_
  intro w12 h12a hq12
  have i3 := rn_in 13 a2.2
  generalize e3 : rn 13 a2.2 = a3 at h12a i3 ⊢
  have ek : cvI .u8 (iv a3.1) = some (.int .u8 a3.1) := by
    show some (Value.int .u8 (IntKind.u8.wrap a3.1)) = _
    obtain ⟨q, hq⟩ := Int.eq_ofNat_of_zero_le i3.1
    have := i3.2.1
    rw [hq, u8_wrap_nat, Nat.mod_eq_of_lt (by omega)]
  simp only [RS0, RS1, RS2, RS3, RS4, RS5, ek]
  try simp only [RS0, RS1, RS2, RS3, RS4, RS5]
  refine h12a.put (j := 3) (r' := ⟨a0.1, a1.1, a2.1, a3.1, 0, 0, 0, 0, 0, 0, [], [], [], [], [], []⟩) (vs' := nl) (vm' := nl) (vi' := nl) (vp' := nl) (vt' := nl) (by omega) rfl rfl ?_
  intro w13 h13a hq13
  refine h13a.num ?_
  intro w14 h14a hq14
  have i4 := rn_in 4611686018427387904 a3.2
  generalize e4 : rn 4611686018427387904 a3.2 = a4 at h14a i4 ⊢
  refine h14a.num ?_
  intro w15 h15a hq15
  have i5 := rn_in 4611686018427387904 a4.2
  generalize e5 : rn 4611686018427387904 a4.2 = a5 at h15a i5 ⊢
  refine h15a.num ?_
  intro w16 h16a hq16
  have i6 := rn_in 4611686018427387904 a5.2
  generalize e6 : rn 4611686018427387904 a5.2 = a6 at h16a i6 ⊢
  refine h16a.num ?_
  intro w17 h17a hq17
  have i7 := rn_in 4611686018427387904 a6.2
  generalize e7 : rn 4611686018427387904 a6.2 = a7 at h17a i7 ⊢
  refine h17a.num ?_
  intro w18 h18a hq18
  have i8 := rn_in 4611686018427387904 a7.2
  generalize e8 : rn 4611686018427387904 a7.2 = a8 at h18a i8 ⊢
  refine h18a.num ?_
  intro w19 h19a hq19
  have i9 := rn_in 4611686018427387904 a8.2
  generalize e9 : rn 4611686018427387904 a8.2 = a9 at h19a i9 ⊢
  try simp only [RS0, RS1, RS2, RS3, RS4, RS5]
  refine h19a.put (j := 4) (r' := ⟨a0.1, a1.1, a2.1, a3.1, a4.1, 0, 0, 0, 0, 0, [], [], [], [], [], []⟩) (vs' := nl) (vm' := nl) (vi' := nl) (vp' := nl) (vt' := nl) (by omega) rfl rfl ?_
  intro w20 h20a hq20
  try simp only [RS0, RS1, RS2, RS3, RS4, RS5]
  refine h20a.put (j := 5) (r' := ⟨a0.1, a1.1, a2.1, a3.1, a4.1, a5.1, 0, 0, 0, 0, [], [], [], [], [], []⟩) (vs' := nl) (vm' := nl) (vi' := nl) (vp' := nl) (vt' := nl) (by omega) rfl rfl ?_
  intro w21 h21a hq21
  try simp only [RS0, RS1, RS2, RS3, RS4, RS5]
  refine h21a.put (j := 6) (r' := ⟨a0.1, a1.1, a2.1, a3.1, a4.1, a5.1, a6.1, 0, 0, 0, [], [], [], [], [], []⟩) (vs' := nl) (vm' := nl) (vi' := nl) (vp' := nl) (vt' := nl) (by omega) rfl rfl ?_
  intro w22 h22a hq22
  try simp only [RS0, RS1, RS2, RS3, RS4, RS5]
  refine h22a.put (j := 7) (r' := ⟨a0.1, a1.1, a2.1, a3.1, a4.1, a5.1, a6.1, a7.1, 0, 0, [], [], [], [], [], []⟩) (vs' := nl) (vm' := nl) (vi' := nl) (vp' := nl) (vt' := nl) (by omega) rfl rfl ?_
  intro w23 h23a hq23
  try simp only [RS0, RS1, RS2, RS3, RS4, RS5]
  refine h23a.put (j := 8) (r' := ⟨a0.1, a1.1, a2.1, a3.1, a4.1, a5.1, a6.1, a7.1, a8.1, 0, [], [], [], [], [], []⟩) (vs' := nl) (vm' := nl) (vi' := nl) (vp' := nl) (vt' := nl) (by omega) rfl rfl ?_
  intro w24 h24a hq24
  try simp only [RS0, RS1, RS2, RS3, RS4, RS5]
  refine h24a.put (j := 9) (r' := ⟨a0.1, a1.1, a2.1, a3.1, a4.1, a5.1, a6.1, a7.1, a8.1, a9.1, [], [], [], [], [], []⟩) (vs' := nl) (vm' := nl) (vi' := nl) (vp' := nl) (vt' := nl) (by omega) rfl rfl ?_
  intro w25 h25a hq25
  simp only [RS0, RS1, RS2, RS3, RS4, RS5, h25a.cp]
  refine h25a.text ?_
  intro w26 h26a hq26
  have it := rt_in (most := 512) (by omega) a9.2
  generalize et : rt 512 a9.2 = at_ at h26a it ⊢
  try simp only [RS0, RS1, RS2, RS3, RS4, RS5]
  refine h26a.put (j := 10) (r' := ⟨a0.1, a1.1, a2.1, a3.1, a4.1, a5.1, a6.1, a7.1, a8.1, a9.1, at_.1, [], [], [], [], []⟩) (vs' := nl) (vm' := nl) (vi' := nl) (vp' := nl) (vt' := nl) (by omega) rfl rfl ?_
  intro w27 h27a hq27
  have hten : ten s = ([a0.1, a1.1, a2.1, a3.1, a4.1, a5.1, a6.1, a7.1, a8.1, a9.1], a9.2) := by
    simp only [ten, e0, e1, e2, e3, e4, e5, e6, e7, e8, e9]
  have hout : outerP s = tailP [a0.1, a1.1, a2.1, a3.1, a4.1, a5.1, a6.1, a7.1, a8.1, a9.1] a9.2 := by unfold outerP; rw [hten]
  rw [tail_eq, et] at hout
  have hz27 : x5 < w27.heap.size := h27a.x.lt
  have hd27 := Fm.drew (fun _ => False) w27
  have g0 := h27a.keepG hd27 (fun _ e => e.elim)
  refine ⟨fun w' => w'.heap[r4]? = some (.cells #[pv rb] 181), g0.rp, ?_⟩
  simp only [RS0, RS1, RS2, RS3, RS4, RS5, h27a.cp, g0.cp, true_and]
  refine ⟨pv rb, fun w9 h9 => ?_, ?_⟩
  · have : w9.cell? ⟨r4, 0, none⟩ = some (pv rb) := by rw [cell_at h9]; rfl
    simp only [RS0, RS1, RS2, RS3, RS4, RS5, this]; trivial
  have hzd : x5 < w27.drew.heap.size := hz27
  generalize w27.drew = wd at hd27 g0 hzd
  refine g0.list ?_
  intro vs w30 g30 ho30 hq30
  refine ⟨g30.rp, ?_⟩
  have hz30 := hq30.size
  try simp only [RS0, RS1, RS2, RS3, RS4, RS5]
  refine g30.list ?_
  intro vm w31 g31 ho31 hq31
  have isl := rl_in (most := 255) (by omega) at_.2
  generalize rl 255 at_.2 = sl at g30 ho30 g31 ho31 hout isl ⊢
  have imo := rl_in (most := 255) (by omega) sl.2
  generalize rl 255 sl.2 = mo at g31 ho31 hout imo ⊢
  have ho4 := g0.o3
  have ho5 := g0.o4
  have ho30' := own_keep ho30 hq31 (fun k hk _ _ e => by omega)
  refine g31.put (j := 11) (r' := ⟨a0.1, a1.1, a2.1, a3.1, a4.1, a5.1, a6.1, a7.1, a8.1, a9.1, at_.1, sl.1, [], [], [], []⟩) (vs' := vs) (vm' := nl) (vi' := nl) (vp' := nl) (vt' := nl) (by omega) (own_one ho30) rfl ?_
  intro w32 g32 hq32
  try simp only [RS0, RS1, RS2, RS3, RS4, RS5]
  refine g32.put (j := 12) (r' := ⟨a0.1, a1.1, a2.1, a3.1, a4.1, a5.1, a6.1, a7.1, a8.1, a9.1, at_.1, sl.1, mo.1, [], [], []⟩) (vs' := vs) (vm' := vm) (vi' := nl) (vp' := nl) (vt' := nl) (by omega) (own_one ho31) rfl ?_
  intro w33 g33 hq33
  have hrow : Rows w33 (x5 + 1) ⟨a0.1, a1.1, a2.1, a3.1, a4.1, a5.1, a6.1, a7.1, a8.1, a9.1, at_.1, sl.1, mo.1, [], [], []⟩ vs vm nl nl nl := by
    refine ⟨own_base (own_keep (own_keep ho30' hq32 (fun k hk _ _ e => by omega)) hq33 (fun k hk _ _ e => by omega)) (by omega), own_base (own_keep (own_keep ho31 hq32 (fun k hk _ _ e => by omega)) hq33 (fun k hk _ _ e => by omega)) (by omega), ⟨[], rfl, World.ownsRow_nil _ _ _ _, by simp⟩, World.ownsRow_nil _ _ _ _, World.ownsRow_nil _ _ _ _⟩
  -- the images
  simp only [RS0, RS1, RS2, RS3, RS4, RS5, g33.cp]
  refine g33.numk (by omega) ?_
  intro w34 g34 hq34
  have ini := rn_in 4 mo.2
  generalize rn 4 mo.2 = ni at g34 hout ini ⊢
  have hrow34 := hrow.keep hq34 (fun y e => by omega)
  obtain ⟨N, hN⟩ := Int.eq_ofNat_of_zero_le ini.1
  rw [hN, Int.toNat_natCast] at hout
  rw [hN]
  have hN4 : N ≤ 4 := by have := ini.2.1; omega
  refine ⟨fun vl w' => ∃ (i : Nat) (L : List (Int × Pg)) (st : St2) (vi : Value), vl = [iv i] ∧ i ≤ N ∧ L.length = i ∧ HS w w' x2 rb r4 x5 st ⟨a0.1, a1.1, a2.1, a3.1, a4.1, a5.1, a6.1, a7.1, a8.1, a9.1, at_.1, sl.1, mo.1, L, [], []⟩ vs vm vi nl nl ∧ Rows w' (x5 + 1) ⟨a0.1, a1.1, a2.1, a3.1, a4.1, a5.1, a6.1, a7.1, a8.1, a9.1, at_.1, sl.1, mo.1, L, [], []⟩ vs vm vi nl nl ∧ riGo N ni.2 = (riGo (N - i) st).map fun q => (L ++ q.1, q.2), fun vl _ => (N - nth vl 0).toNat, ⟨0, [], ni.2, nl, rfl, by omega, rfl, g34, hrow34, by rw [Nat.sub_zero]; simp⟩, ?_⟩
  rintro _ w35 iv35 ⟨i, L, st, vi, hvl, hi, hL, g35, hr35, heq⟩
  cases hvl
  by_cases hlt : i < N
  · have d1 : decide ((i : Int) < (N : Int)) = true := by rw [decide_eq_true_eq]; omega
    have ei : IntKind.i64.wrap ((i : Int) + 1) = ((i + 1 : Nat) : Int) := by rw [wrap_id] <;> omega
    obtain ⟨m, hm⟩ : ∃ m, N - i = m + 1 := ⟨N - i - 1, by omega⟩
    have hm1 : N - (i + 1) = m := by omega
    rw [hm, riGo] at heq
    have hd35 := Fm.drew (fun _ => False) w35
    have g36 := g35.keepG hd35 (fun _ e => e.elim)
    have hr36 := hr35.keep hd35 (fun _ e => e.elim)
    simp only [RS0, RS1, RS2, RS3, RS4, RS5, d1]
    refine ⟨fun w' => w'.heap[r4]? = some (.cells #[pv rb] 181), g36.rp, pv rb, fun w9 h9 => ?_, ?_⟩
    · have : w9.cell? ⟨r4, 0, none⟩ = some (pv rb) := by rw [cell_at h9]; rfl
      simp only [RS0, RS1, RS2, RS3, RS4, RS5, this]; trivial
    generalize w35.drew = w36 at hd35 g36 hr36
    refine g36.num ?_
    intro w37 g37 hq37
    have hr37 := hr36.keep hq37 (fun y e => by omega)
    refine ⟨g37.rp, ?_⟩
    refine g37.text ?_
    intro w38 g38 hq38
    have hr38 := hr37.keep hq38 (fun y e => by omega)
    have ip := rn_in 4611686018427387904 st
    generalize rn 4611686018427387904 st = pa at g37 g38 heq ip ⊢
    have itt := rt_in (most := 512) (by omega) pa.2
    generalize rt 512 pa.2 = tt at g38 heq itt ⊢
    have e5 : IntKind.i64.wrap (512 - (tt.1.length : Int)) = ((512 - tt.1.length : Nat) : Int) := by rw [wrap_id] <;> omega
    have hmk : ByteArray.mk #[0] = str [0] := rfl
    simp only [RS0, RS1, RS2, RS3, RS4, RS5, str_size, e5, hmk]
    refine (repeat_spec w38 (512 - tt.1.length) (by omega)).mono ?_
    rintro _ w39 ⟨rfl, hq39⟩
    have g39 := g38.keepG hq39 (fun _ e => e.elim)
    have hr39 := hr38.keep hq39 (fun _ e => e.elim)
    rw [sadd (by rw [zeros_len]; omega)]
    try simp only [RS0, RS1, RS2, RS3, RS4, RS5]
    have hpad : tt.1 ++ zeros (512 - tt.1.length) = padZ tt.1 := rfl
    have hpl : (padZ tt.1).length = 512 := by unfold padZ; rw [List.length_append, zeros_len]; omega
    rw [hpad]
    refine (decode_spec w39 (padZ tt.1) (by omega)).mono ?_
    rintro _ w40 ⟨pc, rfl, hO40, hq40⟩
    have g40 := g39.keepG hq40 (fun _ e => e.elim)
    have hr40 := hr39.keep hq40 (fun _ e => e.elim)
    have hA40 := hO40.as
    have hz40 := hq40.size
    have hx39 := g39.x.lt
    simp only [RS0, RS1, RS2, RS3, RS4, RS5]
    refine New_any ?_
    intro x9 w41 hx9 hs41 hw41 hf41
    refine St_all hw41 rfl hA40.size hA40.one ?_
    intro w42 hw42 hs42 hf42
    have hf4042 : Fm (fun _ => False) w40 w42 := Fm.own hf41 hf42 (by rintro y rfl; omega)
    have g42 := g40.keepG hf4042 (fun _ e => e.elim)
    have hr42 := hr40.keep hf4042 (fun _ e => e.elim)
    have hO42 := hO40.keep hf4042
    -- out of the images
    have bad : (decide ((pDec (padZ tt.1)).2 = 0) && decide (tt.2.2 = 0)) = false → outerP s = none := fun hb => by
      rw [hout, heq, hb]; rfl
    have early : ∀ w', HS w w' x2 rb r4 x5 tt.2 ⟨a0.1, a1.1, a2.1, a3.1, a4.1, a5.1, a6.1, a7.1, a8.1, a9.1, at_.1, sl.1, mo.1, L, [], []⟩ vs vm vi nl nl → Rows w' (x5 + 1) ⟨a0.1, a1.1, a2.1, a3.1, a4.1, a5.1, a6.1, a7.1, a8.1, a9.1, at_.1, sl.1, mo.1, L, [], []⟩ vs vm vi nl nl → outerP s = none → Pu (cellsV w' ⟨x5, 0, none⟩ 16) (fun t79_166 =>
        St 16 w' (.pointer (some ⟨x2, 0, none⟩)) t79_166 fun u_168 w_169 =>
        RetO (resL Tryz.prog (fun j => bif Nat.beq j 2 then .pointer (some ⟨x2, 0, none⟩) else bif Nat.beq j 3 then (Value.bool false) else undef) w_169 [(ResultVar.cell 2 28), (ResultVar.tmp 3)]) w_169 (fun v w' => ∃ cs ok, v = .tuple #[.agg cs, .bool ok] ∧ cs.size = 16 ∧ (∀ u ∈ cs.toList, u.oneCell' = true) ∧ (ok = false → outerP s = none) ∧ (ok = true → ∃ x vs vm vi vp vt, outerP s = some x ∧ cs = rcs x vs vm vi vp vt ∧ Rows w' w.heap.size x vs vm vi vp vt) ∧ Fm (fun _ => False) w w')) := by
      intro w' gg rr hno
      simp only [RS0, RS1, RS2, RS3, RS4, RS5, gg.x.all]
      refine gg.ret rr.one false ?_
      intro w'' hf''
      have := gg.o1
      exact ⟨_, _, rfl, rfl, rr.one, fun _ => hno, fun e => (by cases e), Fm.own gg.fm hf'' (by rintro y rfl; omega)⟩
    simp only [RS0, RS1, RS2, RS3, RS4, RS5, bne_dec]
    cases hz1 : decide ((pDec (padZ tt.1)).2 = 0) with
    | false =>
      simp only [RS0, RS1, RS2, RS3, RS4, RS5]
      have := early w42 g42 hr42 (bad (by rw [hz1, Bool.false_and]))
      exact this
    | true =>
    simp only [RS0, RS1, RS2, RS3, RS4, RS5, g42.cp]
    refine (berr_spec g42.rd).mono ?_
    rintro _ w43 ⟨rfl, rfl⟩
    simp only [RS0, RS1, RS2, RS3, RS4, RS5, bne_dec]
    cases hz2 : decide (tt.2.2 = 0) with
    | false =>
      simp only [RS0, RS1, RS2, RS3, RS4, RS5]
      have := early w43 g42 hr42 (bad (by rw [hz2, Bool.and_false]))
      exact this
    | true =>
    rw [hz1, hz2] at heq
    obtain ⟨pv_, rfl, hov⟩ := hO42.ex
    have hps : ∃ a n c, pv_ = .slice a n c := by
      rcases hov.2 with ⟨rfl, _⟩ | ⟨g, cap, cur, rfl, _⟩ <;> exact ⟨_, _, _, rfl⟩
    obtain ⟨pa1, pn1, pc1, rfl⟩ := hps
    simp only [RS0, RS1, RS2, RS3, RS4, RS5, g42.x.c13, cellsV_blk hw42 hA40.size]
    refine RunS_ok (bld90 _ _ _ _ _ _) ?_
    refine RunS_ok (bs48 _ _ _ _ _ _) ?_
    have hf44 := Fm.alloc (fun _ => False) w43 (.cells (imC (pa.1, (pDec (padZ tt.1)).1, .slice pa1 pn1 pc1)).toArray 118)
    have hn44 := alloc_new w43 (.cells (imC (pa.1, (pDec (padZ tt.1)).1, .slice pa1 pn1 pc1)).toArray 118)
    have g44 := g42.keepG hf44 (fun _ e => e.elim)
    have hr44 := hr42.keep hf44 (fun _ e => e.elim)
    have hO44 := own_keep hov hf44 (fun _ _ _ _ e => e)
    have hz44 := hf44.size
    generalize w43.alloc (.cells (imC (pa.1, (pDec (padZ tt.1)).1, .slice pa1 pn1 pc1)).toArray 118) = w44 at hf44 hn44 g44 hr44 hO44 hz44
    have hx44 := g44.x.lt
    obtain ⟨X, hX1, hX2, hX3⟩ := hr44.hi
    have hXl : X.length = i := by have := congrArg List.length hX1; rw [List.length_map] at this; rw [this]; exact hL
    obtain ⟨vi', w45, hr45, ho45, _, hf45⟩ := app_fine Er48 (by omega) hX2 (cs := imC (pa.1, (pDec (padZ tt.1)).1, .slice pa1 pn1 pc1)) hn44 rfl (by intro q hq; simp [imC, pcs] at hq; rcases hq with rfl | rfl | rfl | rfl | rfl | rfl | rfl <;> rfl) (by omega) (by unfold maxLen; omega) (by omega)
    refine RunS_ok hr45 ?_
    have hlt45 := own_lt hX2
    have g45 := g44.keepG hf45 (fun y hy => by have := hlt45 y hy; omega)
    try simp only [RS0, RS1, RS2, RS3, RS4, RS5]
    refine g45.put (j := 13) (r' := ⟨a0.1, a1.1, a2.1, a3.1, a4.1, a5.1, a6.1, a7.1, a8.1, a9.1, at_.1, sl.1, mo.1, (L ++ [(pa.1, (pDec (padZ tt.1)).1)]), [], []⟩) (vs' := vs) (vm' := vm) (vi' := vi') (vp' := nl) (vt' := nl) (by omega) (own_one ho45) rfl ?_
    intro w46 g46 hq46
    simp only [RS0, RS1, RS2, RS3, RS4, RS5, ei]
    refine ⟨⟨i + 1, L ++ [(pa.1, (pDec (padZ tt.1)).1)], tt.2, vi', rfl, by omega, by rw [List.length_append, hL]; rfl, g46, ?_, ?_⟩, by simp only [nth_0]; omega⟩
    · have q46 : ∀ k, x5 + 1 ≤ k → ¬ k = x5 := fun k hk e => by omega
      have a3 := fun k hk => own_apart hX2 hr44.hs (by decide) k hk
      refine ⟨own_keep (own_keep hr44.hs hf45 (fun k _ _ hk e => own_apart hX2 hr44.hs (by decide) k e hk)) hq46 (fun k hk _ _ => q46 k hk), own_keep (own_keep hr44.hm hf45 (fun k _ _ hk e => own_apart hX2 hr44.hm (by decide) k e hk)) hq46 (fun k hk _ _ => q46 k hk), ⟨X ++ [(pa.1, (pDec (padZ tt.1)).1, .slice pa1 pn1 pc1)], ?_, ?_, ?_⟩, World.ownsRow_nil _ _ _ _, World.ownsRow_nil _ _ _ _⟩
      · rw [List.map_append, hX1]; rfl
      · rw [List.length_append, List.flatMap_append, List.flatMap_cons, List.flatMap_nil, List.append_nil]
        exact own_keep ho45 hq46 (fun k hk _ _ => q46 k hk)
      · intro x hx
        rcases List.mem_append.1 hx with hx | hx
        · obtain ⟨q1, q2, q3⟩ := hX3 x hx
          have q4 := own_keep (own_keep q2 hf45 (fun k _ _ hk e => own_apart hX2 q2 (by decide) k e hk)) hq46 (fun k hk _ _ => q46 k hk)
          exact ⟨q1, q4, pgas_own q4 q3⟩
        · obtain rfl : x = (pa.1, (pDec (padZ tt.1)).1, .slice pa1 pn1 pc1) := by simpa using hx
          have q2 := own_base hO44 (show x5 + 1 ≤ w39.heap.size by omega)
          have q4 := own_keep (own_keep q2 hf45 (fun k _ _ hk e => own_apart hX2 q2 (by decide) k e hk)) hq46 (fun k hk _ _ => q46 k hk)
          exact ⟨rfl, q4, pgas_own q4 hO42.as⟩
    · rw [heq, hm1]
      cases riGo m tt.2 with
      | none => rfl
      | some q => simp
  · have hie : i = N := by omega
    subst hie
    have d1 : decide ((i : Int) < (i : Int)) = false := by simp
    rw [Nat.sub_self, riGo] at heq
    simp only [Option.map_some, List.append_nil] at heq
    rw [heq, Option.bind_some] at hout
    unfold tailG at hout
    simp only at hout
    -- pairs
    simp only [RS0, RS1, RS2, RS3, RS4, RS5, d1, g35.cp]
    refine g35.numk (by omega) ?_
    intro w60 g60 hq60
    have in60 := rn_in 8192 st
    generalize rn 8192 st = n60 at g60 hout in60 ⊢
    have hr60 := hr35.keep hq60 (fun y e => by omega)
    obtain ⟨N60, hN60⟩ := Int.eq_ofNat_of_zero_le in60.1
    rw [hN60, Int.toNat_natCast] at hout
    rw [hN60]
    have hNl60 : N60 ≤ 8192 := by have := in60.2.1; omega
    refine ⟨fun vl w' => ∃ (i : Nat) (P : List (Int × Int)) (st : St2) (vx : Value), vl = [iv i] ∧ i ≤ N60 ∧ P.length = i ∧ HS w w' x2 rb r4 x5 st ⟨a0.1, a1.1, a2.1, a3.1, a4.1, a5.1, a6.1, a7.1, a8.1, a9.1, at_.1, sl.1, mo.1, L, P, []⟩ vs vm vi vx nl ∧ Rows w' (x5 + 1) ⟨a0.1, a1.1, a2.1, a3.1, a4.1, a5.1, a6.1, a7.1, a8.1, a9.1, at_.1, sl.1, mo.1, L, P, []⟩ vs vm vi vx nl ∧ rpGo N60 n60.2 = (rpGo (N60 - i) st).map fun q => (P ++ q.1, q.2), fun vl _ => (N60 - nth vl 0).toNat, ⟨0, [], n60.2, nl, rfl, by omega, rfl, g60, hr60, by rw [Nat.sub_zero]; simp⟩, ?_⟩
    rintro _ w61 iv61 ⟨j, PG1, st61, vx61, hvl, hj, hP, g61, hr61, heq61⟩
    cases hvl
    by_cases hlt : j < N60
    · have d2 : decide ((j : Int) < (N60 : Int)) = true := by rw [decide_eq_true_eq]; omega
      have ei : IntKind.i64.wrap ((j : Int) + 1) = ((j + 1 : Nat) : Int) := by rw [wrap_id] <;> omega
      obtain ⟨m, hm⟩ : ∃ m, N60 - j = m + 1 := ⟨N60 - j - 1, by omega⟩
      have hm1 : N60 - (j + 1) = m := by omega
      rw [hm, rpGo] at heq61
      simp only [RS0, RS1, RS2, RS3, RS4, RS5, d2, g61.cp]
      refine (berr_spec g61.rd).mono ?_
      rintro _ w50 ⟨rfl, rfl⟩
      simp only [RS0, RS1, RS2, RS3, RS4, RS5, bne_dec]
      cases hz3 : decide (st61.2 = 0) with
      | false =>
        rw [hz3, cond_false] at heq61
        have hno : outerP s = none := by rw [hout, heq61]; rfl
        simp only [RS0, RS1, RS2, RS3, RS4, RS5, g61.x.all]
        refine g61.ret hr61.one false ?_
        intro w'' hf''
        have := g61.o1
        exact ⟨_, _, rfl, rfl, hr61.one, fun _ => hno, fun e => (by cases e), Fm.own g61.fm hf'' (by rintro y rfl; omega)⟩
      | true =>
      rw [hz3, cond_true] at heq61
      have hd50 := Fm.drew (fun _ => False) w50
      have g51 := g61.keepG hd50 (fun _ e => e.elim)
      have hr51 := hr61.keep hd50 (fun _ e => e.elim)
      simp only [RS0, RS1, RS2, RS3, RS4, RS5]
      refine ⟨fun w' => w'.cell? ⟨x5, 14, none⟩ = some vx61, g51.x.c14, ?_⟩
      try simp only [RS0, RS1, RS2, RS3, RS4, RS5]
      refine ⟨vx61, fun w9 h9 => ?_, ?_⟩
      · simp only [RS0, RS1, RS2, RS3, RS4, RS5, h9]; trivial
      generalize w50.drew = w51 at hd50 g51 hr51
      refine g51.num ?_
      intro w52 g52 hq52
      have hr52 := hr51.keep hq52 (fun y e => by omega)
      refine ⟨g52.x.c14, ?_⟩
      refine g52.num ?_
      intro w53 g53 hq53
      have hr53 := hr52.keep hq53 (fun y e => by omega)
      refine ⟨g53.x.c14, ?_⟩
      generalize rn 4611686018427387904 st61 = pa at g52 g53 heq61 ⊢
      generalize rn 4611686018427387904 pa.2 = pb at g53 heq61 ⊢
      refine RunS_ok (bld96 _ _ _) ⟨rfl, ?_⟩
      refine RunS_ok (bs49 _ _ _) ?_
      have hf54 := Fm.alloc (fun _ => False) w53 (.cells (pc2 (pa.1, pb.1)).toArray 120)
      have hn54 := alloc_new w53 (.cells (pc2 (pa.1, pb.1)).toArray 120)
      have g54 := g53.keepG hf54 (fun _ e => e.elim)
      have hr54 := hr53.keep hf54 (fun _ e => e.elim)
      generalize w53.alloc (.cells (pc2 (pa.1, pb.1)).toArray 120) = w54 at hf54 hn54 g54 hr54
      refine ⟨g54.x.c14, ?_⟩
      have hx54 := g54.x.lt
      have hh54 : w54.ownsRow (x5 + 1) 120 2 vx61 PG1.length (PG1.flatMap pc2) := hr54.hp
      obtain ⟨vx', w55, hr55, ho55, _, hf55⟩ := app_fine Er49 (by omega) hh54 (cs := pc2 (pa.1, pb.1)) hn54 rfl (by intro q hq; simp [pc2] at hq; rcases hq with rfl | rfl <;> rfl) (by omega) (by unfold maxLen; omega) (by omega)
      refine RunS_ok hr55 ?_
      have hlt55 := own_lt hr54.hp
      have g55 := g54.keepG hf55 (fun y hy => by have := hlt55 y hy; omega)
      try simp only [RS0, RS1, RS2, RS3, RS4, RS5]
      refine g55.put (j := 14) (r' := ⟨a0.1, a1.1, a2.1, a3.1, a4.1, a5.1, a6.1, a7.1, a8.1, a9.1, at_.1, sl.1, mo.1, L, (PG1 ++ [(pa.1, pb.1)]), []⟩) (vs' := vs) (vm' := vm) (vi' := vi) (vp' := vx') (vt' := nl) (by omega) (own_one ho55) rfl ?_
      intro w56 g56 hq56
      simp only [RS0, RS1, RS2, RS3, RS4, RS5, ei]
      refine ⟨⟨j + 1, PG1 ++ [(pa.1, pb.1)], pb.2, vx', rfl, by omega, by rw [List.length_append, hP]; rfl, g56, ?_, ?_⟩, by simp only [nth_0]; omega⟩
      · have q56 : ∀ k, x5 + 1 ≤ k → ¬ k = x5 := fun k hk e => by omega
        have hrow56 := ho55
        have kk : ∀ {b1 : Nat} {e1 : TypeId} {s1 : Nat} {v1 : Value} {n1 : Nat} {y1 : List Value}, w54.ownsRow (x5 + 1) e1 s1 v1 n1 y1 → 120 ≠ e1 → w56.ownsRow (x5 + 1) e1 s1 v1 n1 y1 := fun hh he => own_keep (own_keep hh hf55 (fun k _ _ hk e => own_apart hr54.hp hh he k e hk)) hq56 (fun k hk _ _ => q56 k hk)
        obtain ⟨X, hX1, hX2, hX3⟩ := hr54.hi
        refine ⟨kk (b1 := 0) hr54.hs (by decide), kk (b1 := 0) hr54.hm (by decide), ⟨X, hX1, kk (b1 := 0) hX2 (by decide), fun x hx => ?_⟩, by
          show w56.ownsRow _ _ _ _ (PG1 ++ [(pa.1, pb.1)]).length _
          rw [List.length_append, List.flatMap_append, List.flatMap_cons, List.flatMap_nil, List.append_nil]
          exact own_keep ho55 hq56 (fun k hk _ _ => q56 k hk), World.ownsRow_nil _ _ _ _⟩
        obtain ⟨q1, q2, q3⟩ := hX3 x hx
        have q4 := kk (b1 := 0) q2 (by decide)
        exact ⟨q1, q4, pgas_own q4 q3⟩
      · rw [heq61, hm1]
        cases rpGo m pb.2 with
        | none => rfl
        | some q => simp
    have hje : j = N60 := by omega
    subst hje
    have d61 : decide ((j : Int) < (j : Int)) = false := by simp
    rw [Nat.sub_self, rpGo] at heq61
    simp only [Option.map_some, List.append_nil] at heq61
    rw [heq61, Option.bind_some] at hout
    unfold tailH at hout
    simp only at hout
    -- pairs
    simp only [RS0, RS1, RS2, RS3, RS4, RS5, d61, g61.cp]
    refine g61.numk (by omega) ?_
    intro w70 g70 hq70
    have in70 := rn_in 1024 st61
    generalize rn 1024 st61 = n70 at g70 hout in70 ⊢
    have hr70 := hr61.keep hq70 (fun y e => by omega)
    obtain ⟨N70, hN70⟩ := Int.eq_ofNat_of_zero_le in70.1
    rw [hN70, Int.toNat_natCast] at hout
    rw [hN70]
    have hNl70 : N70 ≤ 1024 := by have := in70.2.1; omega
    refine ⟨fun vl w' => ∃ (i : Nat) (P : List (Int × Int)) (st : St2) (vx : Value), vl = [iv i] ∧ i ≤ N70 ∧ P.length = i ∧ HS w w' x2 rb r4 x5 st ⟨a0.1, a1.1, a2.1, a3.1, a4.1, a5.1, a6.1, a7.1, a8.1, a9.1, at_.1, sl.1, mo.1, L, PG1, P⟩ vs vm vi vx61 vx ∧ Rows w' (x5 + 1) ⟨a0.1, a1.1, a2.1, a3.1, a4.1, a5.1, a6.1, a7.1, a8.1, a9.1, at_.1, sl.1, mo.1, L, PG1, P⟩ vs vm vi vx61 vx ∧ rpGo N70 n70.2 = (rpGo (N70 - i) st).map fun q => (P ++ q.1, q.2), fun vl _ => (N70 - nth vl 0).toNat, ⟨0, [], n70.2, nl, rfl, by omega, rfl, g70, hr70, by rw [Nat.sub_zero]; simp⟩, ?_⟩
    rintro _ w71 iv71 ⟨j, TX1, st71, vx71, hvl, hj, hP, g71, hr71, heq71⟩
    cases hvl
    by_cases hlt : j < N70
    · have d2 : decide ((j : Int) < (N70 : Int)) = true := by rw [decide_eq_true_eq]; omega
      have ei : IntKind.i64.wrap ((j : Int) + 1) = ((j + 1 : Nat) : Int) := by rw [wrap_id] <;> omega
      obtain ⟨m, hm⟩ : ∃ m, N70 - j = m + 1 := ⟨N70 - j - 1, by omega⟩
      have hm1 : N70 - (j + 1) = m := by omega
      rw [hm, rpGo] at heq71
      simp only [RS0, RS1, RS2, RS3, RS4, RS5, d2, g71.cp]
      refine (berr_spec g71.rd).mono ?_
      rintro _ w50 ⟨rfl, rfl⟩
      simp only [RS0, RS1, RS2, RS3, RS4, RS5, bne_dec]
      cases hz3 : decide (st71.2 = 0) with
      | false =>
        rw [hz3, cond_false] at heq71
        have hno : outerP s = none := by rw [hout, heq71]; rfl
        simp only [RS0, RS1, RS2, RS3, RS4, RS5, g71.x.all]
        refine g71.ret hr71.one false ?_
        intro w'' hf''
        have := g71.o1
        exact ⟨_, _, rfl, rfl, hr71.one, fun _ => hno, fun e => (by cases e), Fm.own g71.fm hf'' (by rintro y rfl; omega)⟩
      | true =>
      rw [hz3, cond_true] at heq71
      have hd50 := Fm.drew (fun _ => False) w50
      have g51 := g71.keepG hd50 (fun _ e => e.elim)
      have hr51 := hr71.keep hd50 (fun _ e => e.elim)
      simp only [RS0, RS1, RS2, RS3, RS4, RS5]
      refine ⟨fun w' => w'.cell? ⟨x5, 15, none⟩ = some vx71, g51.x.c15, ?_⟩
      try simp only [RS0, RS1, RS2, RS3, RS4, RS5]
      refine ⟨vx71, fun w9 h9 => ?_, ?_⟩
      · simp only [RS0, RS1, RS2, RS3, RS4, RS5, h9]; trivial
      generalize w50.drew = w51 at hd50 g51 hr51
      refine g51.num ?_
      intro w52 g52 hq52
      have hr52 := hr51.keep hq52 (fun y e => by omega)
      refine ⟨g52.x.c15, ?_⟩
      refine g52.num ?_
      intro w53 g53 hq53
      have hr53 := hr52.keep hq53 (fun y e => by omega)
      refine ⟨g53.x.c15, ?_⟩
      generalize rn 4611686018427387904 st71 = pa at g52 g53 heq71 ⊢
      generalize rn 4611686018427387904 pa.2 = pb at g53 heq71 ⊢
      refine RunS_ok (bld99 _ _ _) ⟨rfl, ?_⟩
      refine RunS_ok (bs50 _ _ _) ?_
      have hf54 := Fm.alloc (fun _ => False) w53 (.cells (pc2 (pa.1, pb.1)).toArray 122)
      have hn54 := alloc_new w53 (.cells (pc2 (pa.1, pb.1)).toArray 122)
      have g54 := g53.keepG hf54 (fun _ e => e.elim)
      have hr54 := hr53.keep hf54 (fun _ e => e.elim)
      generalize w53.alloc (.cells (pc2 (pa.1, pb.1)).toArray 122) = w54 at hf54 hn54 g54 hr54
      refine ⟨g54.x.c15, ?_⟩
      have hx54 := g54.x.lt
      have hh54 : w54.ownsRow (x5 + 1) 122 2 vx71 TX1.length (TX1.flatMap pc2) := hr54.ht
      obtain ⟨vx', w55, hr55, ho55, _, hf55⟩ := app_fine Er50 (by omega) hh54 (cs := pc2 (pa.1, pb.1)) hn54 rfl (by intro q hq; simp [pc2] at hq; rcases hq with rfl | rfl <;> rfl) (by omega) (by unfold maxLen; omega) (by omega)
      refine RunS_ok hr55 ?_
      have hlt55 := own_lt hr54.ht
      have g55 := g54.keepG hf55 (fun y hy => by have := hlt55 y hy; omega)
      try simp only [RS0, RS1, RS2, RS3, RS4, RS5]
      refine g55.put (j := 15) (r' := ⟨a0.1, a1.1, a2.1, a3.1, a4.1, a5.1, a6.1, a7.1, a8.1, a9.1, at_.1, sl.1, mo.1, L, PG1, (TX1 ++ [(pa.1, pb.1)])⟩) (vs' := vs) (vm' := vm) (vi' := vi) (vp' := vx61) (vt' := vx') (by omega) (own_one ho55) rfl ?_
      intro w56 g56 hq56
      simp only [RS0, RS1, RS2, RS3, RS4, RS5, ei]
      refine ⟨⟨j + 1, TX1 ++ [(pa.1, pb.1)], pb.2, vx', rfl, by omega, by rw [List.length_append, hP]; rfl, g56, ?_, ?_⟩, by simp only [nth_0]; omega⟩
      · have q56 : ∀ k, x5 + 1 ≤ k → ¬ k = x5 := fun k hk e => by omega
        have hrow56 := ho55
        have kk : ∀ {b1 : Nat} {e1 : TypeId} {s1 : Nat} {v1 : Value} {n1 : Nat} {y1 : List Value}, w54.ownsRow (x5 + 1) e1 s1 v1 n1 y1 → 122 ≠ e1 → w56.ownsRow (x5 + 1) e1 s1 v1 n1 y1 := fun hh he => own_keep (own_keep hh hf55 (fun k _ _ hk e => own_apart hr54.ht hh he k e hk)) hq56 (fun k hk _ _ => q56 k hk)
        obtain ⟨X, hX1, hX2, hX3⟩ := hr54.hi
        refine ⟨kk (b1 := 0) hr54.hs (by decide), kk (b1 := 0) hr54.hm (by decide), ⟨X, hX1, kk (b1 := 0) hX2 (by decide), fun x hx => ?_⟩, kk (b1 := 0) hr54.hp (by decide), by
          show w56.ownsRow _ _ _ _ (TX1 ++ [(pa.1, pb.1)]).length _
          rw [List.length_append, List.flatMap_append, List.flatMap_cons, List.flatMap_nil, List.append_nil]
          exact own_keep ho55 hq56 (fun k hk _ _ => q56 k hk)⟩
        obtain ⟨q1, q2, q3⟩ := hX3 x hx
        have q4 := kk (b1 := 0) q2 (by decide)
        exact ⟨q1, q4, pgas_own q4 q3⟩
      · rw [heq71, hm1]
        cases rpGo m pb.2 with
        | none => rfl
        | some q => simp
    have hje : j = N70 := by omega
    subst hje
    have d71 : decide ((j : Int) < (j : Int)) = false := by simp
    rw [Nat.sub_self, rpGo] at heq71
    simp only [Option.map_some, List.append_nil] at heq71
    rw [heq71, Option.bind_some] at hout
    unfold tailI at hout
    simp only at hout
    have hd71 := Fm.drew (fun _ => False) w71
    have g72 := g71.keepG hd71 (fun _ e => e.elim)
    have hr72 := hr71.keep hd71 (fun _ e => e.elim)
    simp only [RS0, RS1, RS2, RS3, RS4, RS5, d71]
    refine ⟨fun w' => RB w' x5 ⟨a0.1, a1.1, a2.1, a3.1, a4.1, a5.1, a6.1, a7.1, a8.1, a9.1, at_.1, sl.1, mo.1, L, PG1, TX1⟩ vs vm vi vx61 vx71, g72.x, .agg (rcs ⟨a0.1, a1.1, a2.1, a3.1, a4.1, a5.1, a6.1, a7.1, a8.1, a9.1, at_.1, sl.1, mo.1, L, PG1, TX1⟩ vs vm vi vx61 vx71), fun w9 h9 => ?_, ?_⟩
    · simp only [RS0, RS1, RS2, RS3, RS4, RS5, h9.all]; trivial
    simp only [RS0, RS1, RS2, RS3, RS4, RS5, g71.cp, g72.cp, true_and]
    generalize w71.drew = w72 at hd71 g72 hr72
    refine (bend_spec g72.rd).mono ?_
    rintro _ w73 ⟨rfl, rfl⟩
    refine ⟨g72.x, ?_⟩
    simp only [RS0, RS1, RS2, RS3, RS4, RS5, beq_dec]
    refine g72.ret hr72.one _ ?_
    intro w74 hf74
    have ho1 := g72.o1
    have ho2 := g72.o2
    have ho3 := g72.o3
    refine ⟨_, _, rfl, rfl, hr72.one, fun e => ?_, fun e => ?_, Fm.own g72.fm hf74 (by rintro y rfl; omega)⟩
    · rw [hout, e]; rfl
    · rw [e, cond_true] at hout
      have hr74 := hr72.keep hf74 (fun y e => by omega)
      have b74 : ∀ {e1 : TypeId} {s1 : Nat} {v1 : Value} {n1 : Nat} {y1 : List Value}, w74.ownsRow (x5 + 1) e1 s1 v1 n1 y1 → w74.ownsRow w.heap.size e1 s1 v1 n1 y1 := fun hh => own_base hh (by have := g72.o4; omega)
      obtain ⟨X, hX1, hX2, hX3⟩ := hr74.hi
      exact ⟨_, _, _, _, _, _, hout, rfl, b74 hr74.hs, b74 hr74.hm, ⟨X, hX1, b74 hX2, fun x hx => ⟨(hX3 x hx).1, b74 (hX3 x hx).2.1, (hX3 x hx).2.2⟩⟩, b74 hr74.hp, b74 hr74.ht⟩

end Go.Proofs.YthbngnlmgplijaaGreatDoor

namespace Go.Proofs.YthbngnlmgplijaaGreatDoor
open Go.Al Go.Proofs
set_option linter.unusedVariables false
set_option linter.unusedSimpArgs false
set_option linter.unusedSectionVars false
set_option maxRecDepth 100000

def RdOk (w : World) (b : Nat) (cs : Array Value) : Option Rc → Prop
  | none => cs = rcs rc0 nl nl nl nl nl
  | some x => ∃ vs vm vi vp vt, cs = rcs x vs vm vi vp vt ∧ Rows w b x vs vm vi vp vt ∧ Bnd x
theorem rows0 (w : World) (b : Nat) : Rows w b rc0 nl nl nl nl nl := ⟨World.ownsRow_nil _ _ _ _, World.ownsRow_nil _ _ _ _, ⟨[], rfl, World.ownsRow_nil _ _ _ _, by simp⟩, World.ownsRow_nil _ _ _ _, World.ownsRow_nil _ _ _ _⟩
theorem bnd0 : Bnd rc0 := ⟨by intro n hn; simp [rNums, rc0, prs] at hn; subst hn; unfold okN; omega, by simp [rc0], by simp [rc0], by simp [rc0], by simp [rc0], by simp [rc0], by simp [rc0], by simp [rc0], by simp [rc0]⟩
theorem RdOk.as {w : World} {b : Nat} {cs : Array Value} {o : Option Rc} (h : RdOk w b cs o) : RcAs w cs (o.getD rc0) := by
  cases o with
  | none =>
    have h : cs = rcs rc0 nl nl nl nl nl := h
    subst h; exact (rows0 w b).asR bnd0
  | some x => obtain ⟨vs, vm, vi, vp, vt, rfl, h1, h2⟩ := h; exact h1.asR h2
theorem retRc {w : World} {g : Nat} {cs : Array Value} {n e : Value} (h : w.heap[g]? = some (.cells cs 28)) (hn : cs.size = 16) (k : KV) (hk : k (.tuple #[.agg cs, n, e]) w) :
    RetO (resL Tryz.prog (fun j => bif Nat.beq j 2 then .pointer (some ⟨g, 0, none⟩) else bif Nat.beq j 3 then n else bif Nat.beq j 4 then e else undef) w [(ResultVar.cell 2 28), (ResultVar.tmp 3), (ResultVar.tmp 4)]) w k := by
  have h3 : resV Tryz.prog (fun j => bif Nat.beq j 2 then .pointer (some ⟨g, 0, none⟩) else bif Nat.beq j 3 then n else bif Nat.beq j 4 then e else undef) w (.tmp 3) = some n := rfl
  have h4 : resV Tryz.prog (fun j => bif Nat.beq j 2 then .pointer (some ⟨g, 0, none⟩) else bif Nat.beq j 3 then n else bif Nat.beq j 4 then e else undef) w (.tmp 4) = some e := rfl
  simp only [resL, resV_blk (f := (fun j => bif Nat.beq j 2 then .pointer (some ⟨g, 0, none⟩) else bif Nat.beq j 3 then n else bif Nat.beq j 4 then e else undef)) (a := 2) rfl agg52 size52 h hn, h3, h4, RetO, RetV]
  exact hk

set_option maxHeartbeats 8000000 in
theorem rdec_spec (w : World) (d : Bs) (hd : d.length ≤ 1000000000000000) : Cl Tryz.prog 13 [stv d] w fun v w' => ∃ cs, v = .tuple #[.agg cs, iv (rDec d).2.1, iv (rDec d).2.2] ∧ RdOk w' w.heap.size cs (rDec d).1 ∧ Fm (fun _ => False) w w' := by
  refine c13 ?_; unfold T13
  refine New_any ?_
  intro x2 w1 hx2 hs1 hw1 hf1
  have hw1' : w1.heap[x2]? = some (.cells (rcs rc0 nl nl nl nl nl) 28) := hw1
  clear hw1
  have one0 : ∀ u ∈ (rcs rc0 nl nl nl nl nl).toList, u.oneCell' = true := rcs_one rfl rfl rfl rfl rfl
  -- an empty record
  have bad : ∀ (w' : World) (e : Int), w'.heap[x2]? = some (.cells (rcs rc0 nl nl nl nl nl) 28) → Fm (fun _ => False) w w' → rDec d = (none, 0, e) →
      RunS Tryz.prog (Instr.build 28 #[]) w' (fun t14_5 w_6 =>
      St 16 w_6 (pv x2) t14_5 fun u_7 w_8 =>
      RetO (resL Tryz.prog (fun j => bif Nat.beq j 2 then pv x2 else bif Nat.beq j 3 then (Value.int IntKind.i64 0) else bif Nat.beq j 4 then (Value.int IntKind.i64 e) else undef) w_8 [(ResultVar.cell 2 28), (ResultVar.tmp 3), (ResultVar.tmp 4)]) w_8 (fun v w' => ∃ cs, v = .tuple #[.agg cs, iv (rDec d).2.1, iv (rDec d).2.2] ∧ RdOk w' w.heap.size cs (rDec d).1 ∧ Fm (fun _ => False) w w')) := by
    intro w' e hw' hF hr
    refine RunS_ok (bld52z _) ?_
    refine St_all hw' rfl rfl one0 ?_
    intro w2 hw2 hs2 hf2
    refine retRc hw2 rfl _ ⟨_, by rw [hr]; rfl, by rw [hr]; rfl, Fm.own hF hf2 (by rintro y rfl; omega)⟩
  have hb : rDec d = (bif decide (d.length < 8) then (none, 0, 40)
    else bif decide (ofN (d.take 4) = 0) || decide (65535 < ofN (d.take 4)) then (none, 0, 41)
    else bif decide (d.length < 8 + ofN (d.take 4)) then (none, 0, 40)
    else bif !decide (ofN ((d.drop 4).take 4) = crc ((d.drop 8).take (ofN (d.take 4)))) then (none, 0, 30)
    else match outerP ((d.drop 8).take (ofN (d.take 4))) with
      | none => (none, 0, 41)
      | some x => bif decide ((rCheck x).2 = 0) && decide ((rCheck x).1 = (d.drop 8).take (ofN (d.take 4))) then (some x, 8 + ofN (d.take 4), 0) else (none, 0, 41) : Option Rc × Nat × Int) := rfl
  have d8 : decide ((d.length : Int) < 8) = decide (d.length < 8) := by rw [decide_eq_decide]; omega
  simp only [RS0, RS1, RS2, RS3, RS4, RS5, str_size, d8]
  cases h1 : decide (d.length < 8) with
  | true =>
    simp only [RS0, RS1, RS2, RS3, RS4, RS5]
    exact bad w1 40 hw1' hf1 (by rw [hb, h1]; rfl)
  | false =>
  have h8 : 8 ≤ d.length := by rw [decide_eq_false_iff_not] at h1; omega
  have s1 := slS_hi (l := d) (i := 4) (by omega) .i64
  have s1' : slS (stv d) none (some (Value.int .i64 4)) = some (stv (d.take 4)) := s1
  simp only [RS0, RS1, RS2, RS3, RS4, RS5, s1']
  refine (of_spec w1 (d.take 4) (by rw [List.length_take]; omega)).mono ?_
  rintro _ w2 ⟨rfl, rfl⟩
  have hn32 : ofN (d.take 4) < 4294967296 := by
    have := ofB_lt 4 (d.take 4) (by rw [List.length_take]; omega)
    rw [ofN_short (by rw [List.length_take]; omega)]
    omega
  rw [h1, cond_false] at hb
  generalize hn : ofN (d.take 4) = n at hb hn32 ⊢
  have e0 : ((n : Int) == 0) = decide (n = 0) := by rw [beq_dec, decide_eq_decide]; omega
  have e1 : decide ((65535 : Int) < (n : Int)) = decide (65535 < n) := by rw [decide_eq_decide]; omega
  simp only [RS0, RS1, RS2, RS3, RS4, RS5, e0]
  cases h2 : decide (n = 0) with
  | true =>
    simp only [RS0, RS1, RS2, RS3, RS4, RS5]
    exact bad w2 41 hw1' hf1 (by rw [hb, h2]; rfl)
  | false =>
  simp only [RS0, RS1, RS2, RS3, RS4, RS5, e1]
  cases h3 : decide (65535 < n) with
  | true =>
    simp only [RS0, RS1, RS2, RS3, RS4, RS5]
    exact bad w2 41 hw1' hf1 (by rw [hb, h2, h3]; rfl)
  | false =>
  rw [h2, h3, Bool.or_false, cond_false] at hb
  rw [decide_eq_false_iff_not] at h2 h3
  have e2 : IntKind.i64.wrap (8 + (n : Int)) = ((8 + n : Nat) : Int) := by rw [wrap_id] <;> omega
  have e3 : decide ((d.length : Int) < ((8 + n : Nat) : Int)) = decide (d.length < 8 + n) := by rw [decide_eq_decide]; omega
  simp only [RS0, RS1, RS2, RS3, RS4, RS5, str_size, e2, e3]
  cases h4 : decide (d.length < 8 + n) with
  | true =>
    simp only [RS0, RS1, RS2, RS3, RS4, RS5]
    exact bad w2 40 hw1' hf1 (by rw [hb, h4]; rfl)
  | false =>
  rw [h4, cond_false] at hb
  rw [decide_eq_false_iff_not] at h4
  have s2 := slS_lh (l := d) (i := 8) (j := 8 + n) (by omega) (by omega) .i64 .i64
  rw [show 8 + n - 8 = n by omega] at s2
  have s2' : slS (stv d) (some (Value.int .i64 8)) (some (iv ((8 + n : Nat) : Int))) = some (stv ((d.drop 8).take n)) := s2
  have s3 := slS_lh (l := d) (i := 4) (j := 8) (by omega) (by omega) .i64 .i64
  have s3' : slS (stv d) (some (Value.int .i64 4)) (some (Value.int .i64 8)) = some (stv ((d.drop 4).take 4)) := s3
  have hbl : ((d.drop 8).take n).length = n := by rw [List.length_take, List.length_drop]; omega
  simp only [RS0, RS1, RS2, RS3, RS4, RS5, e2, s2', s3']
  generalize hB : (d.drop 8).take n = B at hb hbl ⊢
  refine (of_spec w2 ((d.drop 4).take 4) (by rw [List.length_take]; omega)).mono ?_
  rintro _ w3 ⟨rfl, rfl⟩
  refine (sum_spec w3 B (by omega)).mono ?_
  rintro _ w4 ⟨rfl, rfl⟩
  obtain ⟨q1, q2⟩ := crc_in B
  have e4 : decide ((ofN ((d.drop 4).take 4) : Int) = (crc B : Nat)) = decide (ofN ((d.drop 4).take 4) = crc B) := by rw [decide_eq_decide]; omega
  simp only [RS0, RS1, RS2, RS3, RS4, RS5, cvI_int, q2, bne_dec, e4]
  cases h5 : decide (ofN ((d.drop 4).take 4) = crc B) with
  | false =>
    simp only [RS0, RS1, RS2, RS3, RS4, RS5, Bool.not_false]
    exact bad w4 30 hw1' hf1 (by rw [hb, h5]; rfl)
  | true =>
  rw [h5, Bool.not_true, cond_false] at hb
  simp only [RS0, RS1, RS2, RS3, RS4, RS5, Bool.not_true]
  refine (outer_spec w4 B (by omega)).mono ?_
  rintro _ w5 ⟨cs, ok, rfl, hsz, hone, hno, hyes, hf5⟩
  have hx5 := hf5.heap hw1' (fun e => e)
  have hF5 := Fmf hf1 hf5
  have hz5 := hF5.size
  simp only [RS0, RS1, RS2, RS3, RS4, RS5]
  refine New_any ?_
  intro x7 w6 hx7 hs6 hw6 hf6
  refine St_all hw6 rfl hsz hone ?_
  intro w7 hw7 hs7 hf7
  have hf57 : Fm (fun _ => False) w5 w7 := Fm.own hf6 hf7 (by rintro y rfl; omega)
  have hx7' := hf57.heap hx5 (fun e => e)
  have hF7 := Fmf hF5 hf57
  cases ok with
  | false =>
    simp only [RS0, RS1, RS2, RS3, RS4, RS5, Bool.not_false]
    exact bad w7 41 hx7' hF7 (by rw [hb, hno rfl])
  | true =>
  obtain ⟨x, vs, vm, vi, vp, vt, hx, rfl, hrow⟩ := hyes rfl
  have hbd := outer_in hx
  have hr7 := hrow.keep hf57 (fun _ e => e.elim)
  rw [hx] at hb
  simp only at hb
  simp only [RS0, RS1, RS2, RS3, RS4, RS5, Bool.not_true, cellsV_blk hw7 hsz]
  refine (checked_spec (hr7.asR hbd)).mono ?_
  rintro _ w8 ⟨rfl, hf8⟩
  have hx8 := hf8.heap hx7' (fun e => e)
  have hq8 := hf8.heap hw7 (fun e => e)
  have hF8 := Fmf hF7 hf8
  have hr8 := hr7.keep hf8 (fun _ e => e.elim)
  have hz7 := hF7.size
  simp only [RS0, RS1, RS2, RS3, RS4, RS5, bne_dec]
  cases h6 : decide ((rCheck x).2 = 0) with
  | false =>
    simp only [RS0, RS1, RS2, RS3, RS4, RS5, Bool.not_false]
    exact bad w8 41 hx8 hF8 (by rw [hb, h6]; rfl)
  | true =>
  rw [h6, Bool.true_and] at hb
  simp only [RS0, RS1, RS2, RS3, RS4, RS5, Bool.not_true, str_inj]
  cases h7 : decide ((rCheck x).1 = B) with
  | false =>
    simp only [RS0, RS1, RS2, RS3, RS4, RS5, Bool.not_false]
    exact bad w8 41 hx8 hF8 (by rw [hb, h7]; rfl)
  | true =>
  rw [h7, cond_true] at hb
  simp only [RS0, RS1, RS2, RS3, RS4, RS5, Bool.not_true, cellsV_blk hq8 hsz, e2]
  refine St_all hx8 rfl rfl hone ?_
  intro w9 hw9 hs9 hf9
  refine retRc hw9 rfl _ ⟨_, by rw [hb], ?_, Fm.own hF8 hf9 (by rintro y rfl; omega)⟩
  rw [hb]
  have hwsz : w.heap.size ≤ w4.heap.size := hf1.size
  have b9 : ∀ {e1 : TypeId} {s1 : Nat} {v1 : Value} {n1 : Nat} {y1 : List Value}, w9.ownsRow w4.heap.size e1 s1 v1 n1 y1 → w9.ownsRow w.heap.size e1 s1 v1 n1 y1 := fun hh => own_base hh hwsz
  have hr9 := hr8.keep hf9 (fun y e => by omega)
  obtain ⟨X, hX1, hX2, hX3⟩ := hr9.hi
  exact ⟨vs, vm, vi, vp, vt, rfl, ⟨b9 hr9.hs, b9 hr9.hm, ⟨X, hX1, b9 hX2, fun x hx => ⟨(hX3 x hx).1, b9 (hX3 x hx).2.1, (hX3 x hx).2.2⟩⟩, b9 hr9.hp, b9 hr9.ht⟩, hbd⟩

/-! ### What is laid is read, plainly -/
theorem body_ne (r : Rc) : 10 ≤ (rBody r).length := by
  have q : ∀ n : Int, 1 ≤ (encI n).length := fun n => by
    unfold encI
    by_cases h : 127 < (max n 0).toNat
    · rw [encN_big h]; simp
    · rw [encN_small (by omega)]; simp
  have e : rBody r = encI r.lsn ++ (encI r.prev ++ (encI r.next ++ (encI r.kind ++ (encI r.xid ++ (encI r.page ++ (encI r.slot ++ (encI r.old ++ (encI r.new ++ (encI r.redo ++ (txtB r.data ++ listB r.slots ++ listB r.more ++ encI r.imgs.length ++ r.imgs.flatMap imgB ++ encI r.pages.length ++ r.pages.flatMap prB ++ encI r.txns.length ++ r.txns.flatMap prB)))))))))) := by simp [rBody, numsB, headL]
  have h := congrArg List.length e
  simp only [List.length_append] at h
  have := q r.lsn
  have := q r.prev
  have := q r.next
  have := q r.kind
  have := q r.xid
  have := q r.page
  have := q r.slot
  have := q r.old
  have := q r.new
  have := q r.redo
  omega
theorem ofN_beN4 {n : Nat} (h : n < 4294967296) : ofN (beN 4 n) = n := by
  rw [ofN_short (by rw [beN_len]; omega), ofB_beN, Nat.mod_eq_of_lt (by omega)]
theorem rEnc_ok {r : Rc} (h : (rCheck r).2 = 0) (hl : ∀ m ∈ r.imgs, m.2.lsn ≤ 9223372036854775807) : rEnc r = (beN 4 (rBody r).length ++ beN 4 (crc (rBody r)) ++ rBody r, 0) := by
  have h2 := (rCheck_ok h hl).2.2.1
  unfold rEnc
  rw [h, h2]; rfl
theorem rEnc_err (r : Rc) : (rEnc r).2 = (rCheck r).2 := by
  unfold rEnc
  cases h : decide ((rCheck r).2 = 0) with
  | true => rw [decide_eq_true_eq] at h; rw [h]; rfl
  | false => rfl
theorem dec_head {b t : Bs} (hb : b.length ≤ 65535) : (beN 4 b.length ++ beN 4 (crc b) ++ b ++ t).take 4 = beN 4 b.length ∧ ((beN 4 b.length ++ beN 4 (crc b) ++ b ++ t).drop 4).take 4 = beN 4 (crc b) ∧ ((beN 4 b.length ++ beN 4 (crc b) ++ b ++ t).drop 8).take b.length = b ∧ (beN 4 b.length ++ beN 4 (crc b) ++ b ++ t).length = 8 + b.length + t.length := by
  have e1 : beN 4 b.length ++ beN 4 (crc b) ++ b ++ t = beN 4 b.length ++ (beN 4 (crc b) ++ (b ++ t)) := by simp
  have l1 := beN_len 4 b.length
  have l2 := beN_len 4 (crc b)
  refine ⟨by rw [e1, List.take_left' l1], by rw [e1, List.drop_left' l1, List.take_left' l2], ?_, by rw [e1]; simp only [List.length_append, l1, l2]; omega⟩
  have e2 : beN 4 b.length ++ beN 4 (crc b) ++ b ++ t = (beN 4 b.length ++ beN 4 (crc b)) ++ (b ++ t) := by simp
  rw [e2, List.drop_left' (by rw [List.length_append, l1, l2]), List.take_left]
theorem dec_back {r : Rc} (h : (rCheck r).2 = 0) (hl : ∀ m ∈ r.imgs, m.2.lsn ≤ 9223372036854775807) (t : Bs) : rDec ((rEnc r).1 ++ t) = (some r, (rEnc r).1.length, 0) := by
  obtain ⟨hg, _, hb, hlen⟩ := rCheck_ok h hl
  have hne := body_ne r
  have ho := outer_enc hg
  rw [rEnc_ok h hl]
  simp only
  generalize rBody r = b at hlen hne ho hb
  obtain ⟨h1, h2, h3, h4⟩ := dec_head (b := b) (t := t) hlen
  have h5 := (dec_head (b := b) (t := []) hlen).2.2.2
  rw [List.append_nil, List.length_nil, Nat.add_zero] at h5
  have hcl := crc_lt b
  unfold rDec
  rw [h1, h2, h4, h5, ofN_beN4 (by omega), h3, ofN_beN4 (by omega), decide_eq_false (show ¬ 8 + b.length + t.length < 8 by omega), decide_eq_false (show ¬ b.length = 0 by omega), decide_eq_false (show ¬ 65535 < b.length by omega), decide_eq_false (show ¬ 8 + b.length + t.length < 8 + b.length by omega), decide_eq_true rfl, ho]
  simp only [cond_false, Bool.or_false, Bool.not_true]
  rw [h, hb, decide_eq_true rfl, decide_eq_true rfl]
  rfl
end Go.Proofs.YthbngnlmgplijaaGreatDoor

namespace Go.Al
set_option linter.unusedVariables false
set_option linter.unusedSimpArgs false
set_option linter.unusedSectionVars false

structure Dk where
  cur : List Bs
  old : List Bs
  chg : List Bool
  armed : Int
  gone : Bool
  done : Int

namespace Dk

def zsec : Bs := List.replicate 64 0
def mk0 (n : Nat) : Dk := ⟨List.replicate n zsec, List.replicate n zsec, List.replicate n false, 0, false, 0⟩
def isC (chg : List Bool) (i : Nat) : Bool := chg.getD i false
structure Wf (d : Dk) : Prop where
  n1 : d.cur.length ≤ 65536
  lo : d.old.length = d.cur.length
  lc : d.chg.length = d.cur.length
  s1 : ∀ x ∈ d.cur, x.length = 64
  s2 : ∀ x ∈ d.old, x.length = 64
  same : ∀ i, isC d.chg i = false → d.old[i]? = d.cur[i]?
  ar : 0 ≤ d.armed ∧ d.armed ≤ 9223372036854775807

def tick (d : Dk) : Dk := if 0 < d.armed then { d with done := IntKind.i64.wrap (d.done + 1), armed := d.armed - 1, gone := decide (d.armed - 1 = 0) } else { d with done := IntKind.i64.wrap (d.done + 1) }
def put (d : Dk) (i : Nat) (x : Bs) : Dk := { d with cur := d.cur.set i x, chg := d.chg.set i true }
def wr : Dk → Nat → List Bs → Dk × Int
  | d, _, [] => (d, 0)
  | d, i, x :: l => let d' := (d.put i x).tick; bif d'.gone then (d', 5) else wr d' (i + 1) l
def chunks : Nat → Bs → List Bs
  | 0, _ => []
  | k + 1, s => s.take 64 :: chunks k (s.drop 64)
def has (d : Dk) (a k : Int) : Bool := decide (0 ≤ a ∧ 0 ≤ k ∧ a ≤ d.cur.length ∧ k ≤ d.cur.length - a)
def write (d : Dk) (a : Int) (s : Bs) : Dk × Int :=
  bif d.gone then (d, 5) else bif decide (s.length % 64 ≠ 0) || !(d.has a (s.length / 64 : Nat)) then (d, 20) else d.wr a.toNat (chunks (s.length / 64) s)
def read (d : Dk) (a k : Int) : Bs × Int :=
  bif d.gone then ([], 5) else bif !(d.has a k) then ([], 20) else (((d.cur.drop a.toNat).take k.toNat).flatten, 0)
def sync (d : Dk) : Dk × Int :=
  bif d.gone then (d, 5) else let d' := d.tick; bif d'.gone then (d', 5) else ({ d' with old := d'.cur, chg := List.replicate d'.cur.length false }, 0)
def pend (d : Dk) : List Nat := (List.range d.cur.length).filter (isC d.chg)
def rank (chg : List Bool) (i : Nat) : Nat := ((List.range i).filter (isC chg)).length
def fold1 (f : Int) : Int := if f < 0 then -(f + 1) else f
def fate (how : List Int) (k : Nat) : Int := match how[k]? with
  | some f => fold1 f
  | none => 0
def kept (f : Int) : Nat := if f % 3 = 0 then 0 else if f % 3 = 1 then 64 else (f / 3 % 65).toNat
def torn (f : Int) (x y : Bs) : Bs := x.take (kept f) ++ y.drop (kept f)
def mend (how : List Int) (d : Dk) (i : Nat) : Bs := bif isC d.chg i then torn (fate how (rank d.chg i)) (d.cur.getD i []) (d.old.getD i []) else d.cur.getD i []
def mended (how : List Int) (d : Dk) : List Bs := (List.range d.cur.length).map (mend how d)
def crash (d : Dk) (how : List Int) : Dk := { cur := mended how d, old := mended how d, chg := List.replicate d.cur.length false, armed := 0, gone := false, done := d.done }

theorem isC_rep (n i : Nat) : isC (List.replicate n false) i = false := by
  unfold isC
  simp only [List.getD_eq_getElem?_getD, List.getElem?_replicate]
  split <;> rfl
theorem isC_set (c : List Bool) (i j : Nat) (h : i < c.length) : isC (c.set i true) j = if i = j then true else isC c j := by
  unfold isC
  simp only [List.getD_eq_getElem?_getD, List.getElem?_set]
  split
  · rename_i e; subst e; simp [h]
  · rfl
theorem isC_lt {c : List Bool} {i : Nat} (h : isC c i = true) : i < c.length := by
  unfold isC at h
  rcases Nat.lt_or_ge i c.length with hl | hl
  · exact hl
  · rw [List.getD_eq_getElem?_getD, List.getElem?_eq_none hl] at h; cases h

theorem wf_mk0 {n : Nat} (h : n ≤ 65536) : (mk0 n).Wf where
  n1 := by simpa [mk0] using h
  lo := by simp [mk0]
  lc := by simp [mk0]
  s1 := by intro x hx; simp [mk0] at hx; rw [hx.2]; rfl
  s2 := by intro x hx; simp [mk0] at hx; rw [hx.2]; rfl
  same := fun i _ => rfl
  ar := ⟨by simp [mk0], by simp [mk0]⟩
theorem tick_cur (d : Dk) : d.tick.cur = d.cur ∧ d.tick.old = d.old ∧ d.tick.chg = d.chg := by
  unfold tick; split <;> exact ⟨rfl, rfl, rfl⟩
theorem Wf.tick {d : Dk} (h : d.Wf) : d.tick.Wf := by
  obtain ⟨h1, h2, h3, h4, h5, h6, h7⟩ := h
  unfold Dk.tick
  split
  · exact ⟨h1, h2, h3, h4, h5, h6, ⟨by simp only; omega, by simp only; omega⟩⟩
  · exact ⟨h1, h2, h3, h4, h5, h6, h7⟩
theorem Wf.put {d : Dk} (h : d.Wf) (i : Nat) {x : Bs} (hx : x.length = 64) : (d.put i x).Wf where
  n1 := by simpa [Dk.put] using h.n1
  lo := by simpa [Dk.put] using h.lo
  lc := by simpa [Dk.put] using h.lc
  s1 := by
    intro y hy
    rcases List.mem_or_eq_of_mem_set hy with hy | rfl
    · exact h.s1 y hy
    · exact hx
  s2 := h.s2
  same := by
    intro j hj
    rcases Nat.lt_or_ge i d.chg.length with hl | hl
    · simp only [Dk.put] at hj ⊢
      rw [isC_set _ _ _ hl] at hj
      split at hj
      · cases hj
      · rename_i hne
        rw [List.getElem?_set_ne hne]; exact h.same j hj
    · simp only [Dk.put] at hj ⊢
      rw [List.set_eq_of_length_le hl] at hj
      rw [List.set_eq_of_length_le (by rw [← h.lc]; exact hl)]
      exact h.same j hj
  ar := h.ar
theorem chunks_len (k : Nat) (s : Bs) : (chunks k s).length = k := by
  induction k generalizing s with
  | zero => rfl
  | succ k ih => simp [chunks, ih]
theorem chunks_64 {k : Nat} {s : Bs} (h : 64 * k ≤ s.length) : ∀ x ∈ chunks k s, x.length = 64 := by
  induction k generalizing s with
  | zero => intro x hx; cases hx
  | succ k ih =>
    intro x hx
    rcases List.mem_cons.1 hx with rfl | hx
    · rw [List.length_take]; omega
    · exact ih (by rw [List.length_drop]; omega) x hx
theorem Wf.sync {d : Dk} (h : d.Wf) : d.sync.1.Wf := by
  unfold Dk.sync
  cases d.gone with
  | true => exact h
  | false =>
    simp only [cond_false]
    have h1 := h.tick
    cases hg : d.tick.gone with
    | true => exact h1
    | false =>
      simp only [cond_false]
      exact ⟨h1.n1, rfl, by simp, h1.s1, h1.s1, fun i _ => rfl, h1.ar⟩
theorem kept_le (f : Int) : kept f ≤ 64 := by
  unfold kept
  split
  · omega
  · split
    · omega
    · have := Int.emod_lt_of_pos (f / 3) (show (0 : Int) < 65 by decide)
      have := Int.emod_nonneg (f / 3) (show (65 : Int) ≠ 0 by decide)
      omega
theorem torn_len {f : Int} {x y : Bs} (hx : x.length = 64) (hy : y.length = 64) : (torn f x y).length = 64 := by
  have := kept_le f
  simp only [torn, List.length_append, List.length_take, List.length_drop]; omega
theorem Wf.cur64 {d : Dk} (h : d.Wf) {i : Nat} (hi : i < d.cur.length) : (d.cur.getD i []).length = 64 := by
  rw [List.getD_eq_getElem?_getD, List.getElem?_eq_getElem hi]; exact h.s1 _ (List.getElem_mem hi)
theorem Wf.old64 {d : Dk} (h : d.Wf) {i : Nat} (hi : i < d.cur.length) : (d.old.getD i []).length = 64 := by
  rw [List.getD_eq_getElem?_getD, List.getElem?_eq_getElem (by rw [h.lo]; exact hi)]; exact h.s2 _ (List.getElem_mem _)
theorem mend_len {d : Dk} (h : d.Wf) (how : List Int) {i : Nat} (hi : i < d.cur.length) : (mend how d i).length = 64 := by
  unfold mend
  cases isC d.chg i with
  | true => exact torn_len (h.cur64 hi) (h.old64 hi)
  | false => exact h.cur64 hi
theorem mended_len (how : List Int) (d : Dk) : (mended how d).length = d.cur.length := by simp [mended]
theorem mended_get (how : List Int) (d : Dk) (i : Nat) : (mended how d)[i]? = if i < d.cur.length then some (mend how d i) else none := by
  unfold mended
  rw [List.getElem?_map]
  split
  · rename_i h; rw [List.getElem?_range h]; rfl
  · rename_i h; rw [List.getElem?_eq_none (by simpa using h)]; rfl
theorem Wf.crash {d : Dk} (h : d.Wf) (how : List Int) : (d.crash how).Wf where
  n1 := by simpa [Dk.crash, mended_len] using h.n1
  lo := rfl
  lc := by simp [Dk.crash, mended_len]
  s1 := by
    intro x hx
    obtain ⟨i, hi, rfl⟩ := List.mem_map.1 hx
    exact mend_len h how (by simpa using hi)
  s2 := by
    intro x hx
    obtain ⟨i, hi, rfl⟩ := List.mem_map.1 hx
    exact mend_len h how (by simpa using hi)
  same := fun i _ => rfl
  ar := ⟨by simp [Dk.crash], by simp [Dk.crash]⟩

/-! ### One sector is written -/
theorem sync_calm {d : Dk} (ha : d.armed = 0) (hg : d.gone = false) : d.sync.2 = 0 ∧ d.sync.1.cur = d.cur ∧ d.sync.1.old = d.cur ∧ d.sync.1.gone = false ∧ d.sync.1.armed = 0 := by
  have ht : d.tick = { d with done := IntKind.i64.wrap (d.done + 1) } := by unfold tick; rw [if_neg (by omega)]
  unfold sync
  rw [hg]
  simp only [cond_false, ht]
  rw [show ({ d with done := IntKind.i64.wrap (d.done + 1) } : Dk).gone = false from hg]
  exact ⟨rfl, rfl, rfl, rfl, ha⟩
/-! ### Pending -/
theorem pend_get (c : List Bool) : ∀ (n k i : Nat), ((List.range n).filter (isC c))[k]? = some i ↔ i < n ∧ isC c i = true ∧ rank c i = k
  | 0, k, i => by simp
  | n + 1, k, i => by
    rw [List.range_succ, List.filter_append, List.getElem?_append]
    have ih := pend_get c n
    have hl : ((List.range n).filter (isC c)).length = rank c n := rfl
    by_cases hk : k < ((List.range n).filter (isC c)).length
    · rw [if_pos hk, ih]
      constructor
      · rintro ⟨h1, h2, h3⟩; exact ⟨by omega, h2, h3⟩
      · rintro ⟨h1, h2, h3⟩
        refine ⟨?_, h2, h3⟩
        have : i ≠ n := by rintro rfl; rw [hl, h3] at hk; omega
        omega
    · rw [if_neg hk]
      rw [hl] at hk ⊢
      constructor
      · intro h
        rw [List.filter_cons] at h
        split at h
        · rename_i hn
          rw [List.filter_nil] at h
          cases hd : k - rank c n with
          | zero => rw [hd] at h; simp at h; subst h; exact ⟨by omega, hn, by omega⟩
          | succ _ => rw [hd] at h; simp at h
        · simp at h
      · rintro ⟨h1, h2, h3⟩
        have : i = n := by
          rcases Nat.lt_or_ge i n with hlt | hge
          · have h4 := (ih (rank c i) i).2 ⟨hlt, h2, rfl⟩
            have := (List.getElem?_eq_some_iff.1 h4).1
            rw [hl] at this; omega
          · omega
        subst this
        rw [List.filter_cons, if_pos h2, h3, Nat.sub_self]; rfl
theorem pend_mem {d : Dk} (h : d.Wf) {i : Nat} : i ∈ d.pend ↔ isC d.chg i = true := by
  unfold pend
  rw [List.mem_filter, List.mem_range]
  exact ⟨fun x => x.2, fun x => ⟨by rw [← h.lc]; exact isC_lt x, x⟩⟩
theorem pend_rises (d : Dk) : d.pend.Pairwise (· < ·) := by
  unfold pend
  exact (List.pairwise_lt_range).filter _
theorem pend_len (d : Dk) : d.pend.length ≤ d.cur.length := by
  unfold pend
  exact Nat.le_trans (List.length_filter_le _ _) (by simp)
/-! ### A crash, step by step -/
def mendK (how : List Int) (d : Dk) (k i : Nat) : Bs := bif isC d.chg i && decide (rank d.chg i < k) then torn (fate how (rank d.chg i)) (d.cur.getD i []) (d.old.getD i []) else d.cur.getD i []
def mid (how : List Int) (d : Dk) (k : Nat) : Dk := { d with cur := (List.range d.cur.length).map (mendK how d k) }
theorem mid_len (how : List Int) (d : Dk) (k : Nat) : (mid how d k).cur.length = d.cur.length := by simp [mid]
theorem mid_get (how : List Int) (d : Dk) (k i : Nat) : (mid how d k).cur[i]? = if i < d.cur.length then some (mendK how d k i) else none := by
  unfold mid
  simp only [List.getElem?_map]
  split
  · rename_i h; rw [List.getElem?_range h]; rfl
  · rename_i h; rw [List.getElem?_eq_none (by simpa using h)]; rfl
theorem mendK_len {d : Dk} (h : d.Wf) (how : List Int) (k : Nat) {i : Nat} (hi : i < d.cur.length) : (mendK how d k i).length = 64 := by
  unfold mendK
  cases isC d.chg i && decide (rank d.chg i < k) with
  | true => exact torn_len (h.cur64 hi) (h.old64 hi)
  | false => exact h.cur64 hi
theorem Wf.mid {d : Dk} (h : d.Wf) (how : List Int) (k : Nat) : (mid how d k).Wf where
  n1 := by rw [mid_len]; exact h.n1
  lo := by rw [mid_len]; exact h.lo
  lc := by rw [mid_len]; exact h.lc
  s1 := by
    intro x hx
    obtain ⟨i, hi, rfl⟩ := List.mem_map.1 hx
    exact mendK_len h how k (by simpa using hi)
  s2 := h.s2
  same := by
    intro i hi
    rw [mid_get]
    have hi' : isC d.chg i = false := hi
    show d.old[i]? = _
    rw [h.same i hi']
    split
    · rename_i hl
      rw [mendK, hi', Bool.false_and, cond_false, List.getD_eq_getElem?_getD, List.getElem?_eq_getElem hl]; rfl
    · rename_i hl; rw [List.getElem?_eq_none (by omega)]
  ar := h.ar
theorem getD_eq {α : Type} {l : List α} {i : Nat} {x : α} (h : i < l.length) : l[i]? = some (l.getD i x) := by
  rw [List.getD_eq_getElem?_getD, List.getElem?_eq_getElem h]; rfl
theorem mid_zero (how : List Int) (d : Dk) : mid how d 0 = d := by
  have : (mid how d 0).cur = d.cur := by
    apply List.ext_getElem?
    intro i
    rw [mid_get]
    split
    · rename_i h
      rw [mendK, decide_eq_false (Nat.not_lt_zero _), Bool.and_false, cond_false]; exact (getD_eq h).symm
    · rename_i h; rw [List.getElem?_eq_none (by omega)]
  unfold mid at this ⊢
  simp only at this
  rw [this]
theorem mid_end (how : List Int) (d : Dk) : (mid how d d.pend.length).cur = mended how d := by
  apply List.ext_getElem?
  intro i
  rw [mid_get, mended_get]
  split
  · rename_i h
    congr 1
    unfold mendK mend
    cases hc : isC d.chg i with
    | false => rfl
    | true =>
      have : (d.pend)[rank d.chg i]? = some i := (pend_get d.chg _ _ _).2 ⟨h, hc, rfl⟩
      have := (List.getElem?_eq_some_iff.1 this).1
      rw [decide_eq_true this, Bool.and_true]
  · rfl
theorem mid_step {how : List Int} {d : Dk} {k i : Nat} (h : d.pend[k]? = some i) : i < d.cur.length ∧ (mid how d k).cur.getD i [] = d.cur.getD i [] ∧ isC d.chg i = true ∧
    (mid how d (k + 1)).cur = (mid how d k).cur.set i (torn (fate how k) (d.cur.getD i []) (d.old.getD i [])) := by
  obtain ⟨h1, h2, h3⟩ := (pend_get d.chg _ _ _).1 h
  refine ⟨h1, ?_, h2, ?_⟩
  · rw [List.getD_eq_getElem?_getD, mid_get, if_pos h1, Option.getD_some, mendK, decide_eq_false (by omega), Bool.and_false]; rfl
  · apply List.ext_getElem?
    intro j
    rw [mid_get, List.getElem?_set, mid_get]
    by_cases hj : j < d.cur.length
    · rw [if_pos hj, if_pos hj]
      by_cases e : i = j
      · subst e
        rw [if_pos rfl, if_pos (by rw [mid_len]; exact h1), mendK, h2, h3, decide_eq_true (by omega)]; rfl
      · rw [if_neg e]
        congr 1
        unfold mendK
        cases hc : isC d.chg j with
        | false => rfl
        | true =>
          have hne : rank d.chg j ≠ k := by
            intro e2
            have := (pend_get d.chg _ _ _).2 ⟨hj, hc, e2⟩
            rw [show (List.range d.cur.length).filter (isC d.chg) = d.pend from rfl, h] at this
            exact e (by simpa using this)
          have : decide (rank d.chg j < k + 1) = decide (rank d.chg j < k) := by
            rw [decide_eq_decide]; omega
          rw [this]
    · rw [if_neg hj, if_neg hj]
      split
      · rename_i e; subst e; rw [if_neg (by rw [mid_len]; exact hj)]
      · rfl
theorem fold1_pos {f : Int} (h : -9223372036854775808 ≤ f ∧ f ≤ 9223372036854775807) : 0 ≤ fold1 f ∧ fold1 f ≤ 9223372036854775807 := by
  unfold fold1; split <;> omega
theorem fate_pos {how : List Int} (h : ∀ f ∈ how, -9223372036854775808 ≤ f ∧ f ≤ 9223372036854775807) (k : Nat) : 0 ≤ fate how k ∧ fate how k ≤ 9223372036854775807 := by
  unfold fate
  split
  · rename_i f hf; exact fold1_pos (h f (List.mem_of_getElem? hf))
  · omega

/-! ### A crash, sector by sector -/
/-- Two rising lists of the same members are one. -/
theorem rising_eq {a b : List Int} (ha : a.Pairwise (· < ·)) (hb : b.Pairwise (· < ·)) (h : ∀ x, x ∈ a ↔ x ∈ b) : a = b := by
  induction a generalizing b with
  | nil =>
    cases b with
    | nil => rfl
    | cons y b => exact absurd ((h y).2 (by simp)) (by simp)
  | cons x a ih =>
    cases b with
    | nil => exact absurd ((h x).1 (by simp)) (by simp)
    | cons y b =>
      rw [List.pairwise_cons] at ha hb
      have hxy : x = y := by
        rcases List.mem_cons.1 ((h x).1 (by simp)) with e | hx
        · exact e
        · rcases List.mem_cons.1 ((h y).2 (by simp)) with e | hy
          · exact e.symm
          · have := ha.1 y hy; have := hb.1 x hx; omega
      subst hxy
      congr 1
      refine ih ha.2 hb.2 fun z => ?_
      constructor
      · intro hz
        rcases List.mem_cons.1 ((h z).1 (by simp [hz])) with e | hz'
        · have := ha.1 z hz; omega
        · exact hz'
      · intro hz
        rcases List.mem_cons.1 ((h z).2 (by simp [hz])) with e | hz'
        · have := hb.1 z hz; omega
        · exact hz'

/-! ### All sectors in a row -/
theorem flat_len {l : List Bs} (h : ∀ x ∈ l, x.length = 64) : l.flatten.length = 64 * l.length := by
  induction l with
  | nil => rfl
  | cons x l ih => simp only [List.flatten_cons, List.length_append, List.length_cons, h x (by simp), ih (fun y hy => h y (by simp [hy]))]; omega
theorem flat_drop {l : List Bs} (h : ∀ x ∈ l, x.length = 64) (i : Nat) : l.flatten.drop (64 * i) = (l.drop i).flatten := by
  induction l generalizing i with
  | nil => simp
  | cons x l ih =>
    cases i with
    | zero => rfl
    | succ i =>
      rw [List.flatten_cons, List.drop_succ_cons, ← ih (fun y hy => h y (by simp [hy])) i, List.drop_append, h x (by simp), show 64 * (i + 1) - 64 = 64 * i by omega,
        List.drop_eq_nil_of_le (by rw [h x (by simp)]; omega), List.nil_append]
theorem flat_take {l : List Bs} (h : ∀ x ∈ l, x.length = 64) (i : Nat) : l.flatten.take (64 * i) = (l.take i).flatten := by
  induction l generalizing i with
  | nil => simp
  | cons x l ih =>
    cases i with
    | zero => rfl
    | succ i =>
      rw [List.flatten_cons, List.take_succ_cons, List.flatten_cons, ← ih (fun y hy => h y (by simp [hy])) i, List.take_append, h x (by simp), show 64 * (i + 1) - 64 = 64 * i by omega,
        List.take_of_length_le (by rw [h x (by simp)]; omega)]
theorem flat_sec {l : List Bs} (h : ∀ x ∈ l, x.length = 64) {i : Nat} (hi : i < l.length) : (l.flatten.drop (64 * i)).take 64 = l.getD i [] := by
  rw [flat_drop h, List.getD_eq_getElem?_getD, List.getElem?_eq_getElem hi, List.drop_eq_getElem_cons hi, List.flatten_cons, Option.getD_some]
  rw [List.take_append_of_le_length (by rw [h _ (List.getElem_mem hi)]; omega), List.take_of_length_le (by rw [h _ (List.getElem_mem hi)]; omega)]
/-- A sector's end is laid anew. -/
theorem flat_lay {l : List Bs} (h : ∀ x ∈ l, x.length = 64) {i j : Nat} (hi : i < l.length) (hj : j ≤ 64) {y : Bs} (hy : y.length = 64 - j) :
    l.flatten.take (64 * i + j) ++ y ++ l.flatten.drop (64 * i + 64) = (l.set i ((l.getD i []).take j ++ y)).flatten := by
  induction l generalizing i with
  | nil => simp at hi
  | cons x l ih =>
    have hx := h x (by simp)
    cases i with
    | zero =>
      simp only [List.flatten_cons, List.set_cons_zero, List.getD_cons_zero, Nat.mul_zero, Nat.zero_add]
      rw [List.take_append_of_le_length (by omega), List.drop_append, hx, Nat.sub_self, List.drop_eq_nil_of_le (by omega), List.nil_append, List.drop_zero]
    | succ i =>
      simp only [List.flatten_cons, List.set_cons_succ, List.getD_cons_succ]
      rw [← ih (fun y hy => h y (by simp [hy])) (by simpa using hi), List.take_append, List.drop_append, hx]
      rw [List.take_of_length_le (show x.length ≤ 64 * (i + 1) + j by omega), List.drop_eq_nil_of_le (show x.length ≤ 64 * (i + 1) + 64 by omega), List.nil_append,
        show 64 * (i + 1) + j - 64 = 64 * i + j by omega, show 64 * (i + 1) + 64 - 64 = 64 * i + 64 by omega]
      simp only [List.append_assoc]

end Dk
end Go.Al

namespace Go.Al
set_option linter.unusedVariables false
set_option linter.unusedSimpArgs false
set_option linter.unusedSectionVars false

/-- Cells are laid ahead of a mark. -/
theorem store_ahead (P : Program) (g o : Nat) (t : TypeId) (fz : Nat × Nat) : ∀ (vs : List Value) (i : Nat) (cur : Array Value) (w : World), w.heap[g]? = some (.cells cur t fz) → (fz = (0, 0) ∨ cur.size ≤ fz.1) → o + i + vs.length ≤ cur.size → (∀ v ∈ vs, v.oneCell' = true) →
    (storeCells ⟨g, o, none⟩ vs i).run P w = .ok () (w.setRow g (cur.toList.take (o + i) ++ vs ++ cur.toList.drop (o + i + vs.length)).toArray)
  | [], i, cur, w, hg, _, _, _ => by
    simp only [storeCells, List.append_nil, List.length_nil, Nat.add_zero, List.take_append_drop, Array.toArray_toList]
    rw [setRow_self w g cur t fz hg]
    rfl
  | v :: rest, i, cur, w, hg, hfz, hl, h1 => by
    have hi : o + i < cur.size := by simp at hl; omega
    have hadd : (⟨g, o, none⟩ : Addr).add i = ⟨g, o + i, none⟩ := by unfold Addr.add; split <;> simp_all
    have hcell : w.cell? ⟨g, o + i, none⟩ = some cur[o + i] := by simp [World.cell?, hg, hi]
    have hfro : w.frozen? ⟨g, o + i, none⟩ = false := by
      obtain ⟨lo, hi'⟩ := fz
      simp only [World.frozen?, hg, Bool.and_eq_false_iff, decide_eq_false_iff_not]
      rcases hfz with h | h
      · cases h; right; omega
      · left
        simp only at h
        omega
    have hst : (store ((⟨g, o, none⟩ : Addr).add i) v).run P w = .ok () (w.setRow g (cur.setIfInBounds (o + i) v)) := by
      rw [hadd, run_store P w _ v _ (h1 v (by simp)), hcell]
      simp [hfro, setCell_eq_setRow w g (o + i) cur t fz v hg]
    have ih := store_ahead P g o t fz rest (i + 1) (cur.setIfInBounds (o + i) v) (w.setRow g (cur.setIfInBounds (o + i) v)) (setRow_heap w g cur _ t _ hg) (by simpa using hfz) (by simp at hl ⊢; omega) (fun x hx => h1 x (by simp [hx]))
    simp only [storeCells, Sem.run_bind, hst, Result.andThen_ok, ih, setRow_setRow]
    congr 3
    have e := list_seg_step cur.toList (o + i) v rest (by simp at hl ⊢; omega)
    simpa [Array.toList_setIfInBounds, Nat.add_assoc] using e

end Go.Al

namespace Go.Al
set_option linter.unusedVariables false
set_option linter.unusedSimpArgs false
set_option linter.unusedSectionVars false

def KpAt (w : World) (e : TypeId) (v : Value) (B : Bs) : Prop :=
  (v = .slice none 0 0 ∧ B = []) ∨ ∃ g cap cur, v = .slice (some ⟨g, 0, none⟩) B.length cap ∧ w.heap[g]? = some (.cells cur e) ∧ B.length ≤ cap ∧ cap ≤ maxLen ∧ cap ≤ cur.size ∧ cur.toList.take B.length = bc B
theorem KpAt.nil (w : World) (e : TypeId) : KpAt w e (.slice none 0 0) [] := .inl ⟨rfl, rfl⟩
theorem KpAt.of_own {w : World} {base : Nat} {e : TypeId} {v : Value} {B : Bs} {n : Nat} (h : w.ownsRow base e 1 v n (bc B)) : KpAt w e v B := by
  have hl := h.1
  rw [bc_len, Nat.mul_one] at hl
  subst hl
  rcases h.2 with ⟨rfl, h0⟩ | ⟨g, cap, cur, rfl, _, hg, hn, hc, hs, ht⟩
  · exact .inl ⟨rfl, List.eq_nil_of_length_eq_zero h0⟩
  · rw [Nat.mul_one] at hs ht
    exact .inr ⟨g, cap, cur, rfl, hg, hn, hc, by omega, ht⟩
theorem KpAt.keep {S : Nat → Prop} {w w' : World} {e : TypeId} {v : Value} {B : Bs} (h : KpAt w e v B) (hf : Fm S w w') (hs : ∀ y, v.ownBlock = some y → ¬ S y) : KpAt w' e v B := by
  rcases h with h | ⟨g, cap, cur, rfl, hg, h⟩
  · exact .inl h
  · exact .inr ⟨g, cap, cur, rfl, hf.heap hg (hs g rfl), h⟩
theorem KpAt.lt {w : World} {e : TypeId} {v : Value} {B : Bs} (h : KpAt w e v B) : ∀ y, v.ownBlock = some y → y < w.heap.size := by
  intro y hy
  rcases h with ⟨rfl, _⟩ | ⟨g, cap, cur, rfl, hg, h⟩
  · cases hy
  · cases hy; exact lt_of_heap hg
theorem KpAt.one {w : World} {e : TypeId} {v : Value} {B : Bs} (h : KpAt w e v B) : v.oneCell' = true := by
  rcases h with ⟨rfl, _⟩ | ⟨g, cap, cur, rfl, hg, h⟩ <;> rfl
theorem KpAt.lenV {w : World} {e : TypeId} {v : Value} {B : Bs} (h : KpAt w e v B) : lenV v = some (.int .i64 B.length) := by
  rcases h with ⟨rfl, rfl⟩ | ⟨g, cap, cur, rfl, hg, h⟩ <;> rfl
theorem KpAt.neT {w : World} {e t : TypeId} {v : Value} {B : Bs} (h : KpAt w e v B) {x : Nat} {cs : Array Value} {fz : Nat × Nat} (hx : w.heap[x]? = some (.cells cs t fz)) (hne : e ≠ t) : v.ownBlock ≠ some x := by
  intro hk
  rcases h with ⟨rfl, _⟩ | ⟨g, cap, cur, rfl, hg, h⟩
  · cases hk
  · cases hk
    rw [hx] at hg
    cases hg
    exact hne rfl
theorem KpAt.neM {w : World} {e : TypeId} {v : Value} {B : Bs} (h : KpAt w e v B) {x : Nat} {es : Array MapEntry} {c : Nat} (hx : w.heap[x]? = some (.map es c)) : v.ownBlock ≠ some x := by
  intro hk
  rcases h with ⟨rfl, _⟩ | ⟨g, cap, cur, rfl, hg, h⟩
  · cases hk
  · cases hk
    rw [hx] at hg
    cases hg
/-- 'append(b, s...)'. -/
theorem KpAt.app {P : Program} {t e s : TypeId} (B : ByteT P t e s) {w : World} {v : Value} {L : Bs} (h : KpAt w e v L) (x : Bs) (ty : TypeId) (hl : L.length + x.length ≤ 100000000000) :
    ∃ v' w', (Builtin.append_ #[t, s] ty #[v, stv x]).run P w = .ok v' w' ∧ KpAt w' e v' (L ++ x) ∧ Fm (fun y => v.ownBlock = some y) w w' ∧ (∀ y, v'.ownBlock = some y → v.ownBlock = some y ∨ w.heap.size ≤ y) := by
  rcases h with ⟨rfl, rfl⟩ | ⟨g, cap, cur, rfl, hg, hnc, hcm, hcs, htake⟩
  · obtain ⟨v', w', hr, ho, hf, _⟩ := append_text B (n := 0) (l := []) (World.ownsRow_nil w w.heap.size e 1) x ty (by simp at hl; omega) (Nat.le_refl _)
    refine ⟨v', w', hr, KpAt.of_own ho, hf, fun y hy => .inr ?_⟩
    rcases ho.2 with ⟨rfl, _⟩ | ⟨g, cap, cur, rfl, hb, _⟩
    · cases hy
    · cases hy; exact hb
  obtain ⟨i, h1, h2, h3, h4⟩ := B.info
  have hsx : Lib.strCells (str x) = bc x := rfl
  have hxz : (str x).size = x.length := str_size x
  by_cases hroom : L.length + x.length ≤ cap
  · have hf := Lib.run_firstCells_string (P := P) w 1 (str x)
    rw [hsx, hxz] at hf
    have hst := store_ahead P g L.length e (0, 0) (bc x) 0 cur w hg (.inl rfl) (by rw [bc_len]; omega) (bc_one x)
    simp only [Nat.add_zero, bc_len] at hst
    have hr : (Builtin.append_ #[t, s] ty #[.slice (some ⟨g, 0, none⟩) L.length cap, stv x]).run P w = .ok (.slice (some ⟨g, 0, none⟩) (L.length + x.length) cap) (w.setRow g (cur.toList.take L.length ++ bc x ++ cur.toList.drop (L.length + x.length)).toArray) := by
      simp [Builtin.append_, run_underlying B.sl, run_underlying B.st, sizeOf, typeInfo, h1, h3, Builtin.lenOf, str_size, hroom, hf, Addr.add_lit, hst]
    refine ⟨_, _, hr, .inr ⟨g, cap, _, by rw [List.length_append], setRow_heap w g cur _ e _ hg, by rw [List.length_append]; exact hroom, hcm, ?_, ?_⟩, ⟨rfl, rfl, rfl, by simp, fun k _ hk => setRow_other w g k _ (fun e => hk (by rw [e]; rfl))⟩, fun y hy => .inl hy⟩
    · simp only [List.size_toArray, List.length_append, List.length_take, List.length_drop, Array.length_toList, bc_len]
      omega
    · rw [htake, ← bc_append, List.take_append_of_le_length (by rw [bc_len]; exact Nat.le_refl _), List.take_of_length_le (by rw [bc_len]; exact Nat.le_refl _)]
  · have holds : ∀ j u, (bc L)[j]? = some u → w.cell? ((⟨g, 0, none⟩ : Addr).add j) = some u := by
      intro j u hj
      rw [← htake, List.getElem?_take] at hj
      split at hj
      · rw [Addr.add_lit, cell_at hg]
        simpa using hj
      · cases hj
    have hr := Lib.run_append_grow_string (P := P) w t s ty e i (.int .u8 0) B.sl B.st h1 h2 ⟨g, 0, none⟩ L.length cap (bc L) (by rw [bc_len, h3, Nat.mul_one]) holds (str x) (by rw [hxz]; omega) (by rw [hxz]; omega) (by rw [hxz, h4]; exact growslice_fits (by omega) (by omega))
    rw [hxz, hsx] at hr
    have hge := grownCap_ge w (L.length + x.length) cap e
    have hcm' : grownCap w (L.length + x.length) cap e ≤ maxLen := grownCap_le_maxLen w (L.length + x.length) cap e (by unfold maxLen; omega)
    refine ⟨_, _, hr, .inr ⟨w.heap.size, _, _, by rw [List.length_append], alloc_new w.drew _, by rw [List.length_append]; exact hge, hcm', ?_, ?_⟩, ⟨rfl, rfl, rfl, by simp, fun k hk _ => (Fm.alloc (fun _ => False) w.drew _).block k hk (fun e => e)⟩, fun y hy => .inr (by cases hy; exact Nat.le_refl _)⟩
    · have hz1 : (Value.int IntKind.u8 0).cells.size = 1 := rfl
      simp only [Array.size_append, List.size_toArray, size_zeroCells, hz1, bc_len]
      omega
    · simp only [Array.toList_append, List.append_assoc]
      rw [← List.append_assoc, ← bc_append, List.take_append_of_le_length (by rw [bc_len]; exact Nat.le_refl _), List.take_of_length_le (by rw [bc_len]; exact Nat.le_refl _)]
/-- 'string(b[i:j])'. -/
theorem KpAt.cut {P : Program} {t e s : TypeId} (B : ByteT P t e s) {w : World} {v : Value} {L : Bs} {e' : TypeId} (h : KpAt w e' v L) {i j : Nat} (hij : i ≤ j) (hj : j ≤ L.length) :
    ∃ u, slV 1 v (some (.int .i64 i)) (some (.int .i64 j)) none = some u ∧ (convert t s u).run P w = .ok (stv ((L.drop i).take (j - i))) w := by
  rcases h with ⟨rfl, rfl⟩ | ⟨g, cap, cur, rfl, hg, hnc, hcm, hcs, htake⟩
  · simp at hj
    subst hj
    obtain rfl : i = 0 := by omega
    exact ⟨.slice none 0 0, rfl, conv_nil B w 0 0⟩
  · obtain ⟨o', h1, h2, h3, _⟩ := slV_lh (g := g) (o := 0) (n := L.length) (c := cap) hij (by omega) .i64 .i64
    refine ⟨_, h1, ?_⟩
    have hx : BX w g e' L := ⟨cur, _, hg, htake, by omega, .inl rfl⟩
    by_cases hi : i < cap
    · rw [h2 hi, Nat.zero_add]
      exact hx.conv B (by omega) _
    · have : j - i = 0 := by omega
      rw [this]
      have := hx.conv (P := P) B (o := o') (n := 0) (by omega) (cap - i)
      rw [List.take_zero] at this ⊢
      exact this
end Go.Al

namespace Go.Proofs.YthbngnlmgplijaaGreatDoor
open Go.Al Go.Proofs
set_option maxRecDepth 100000
set_option linter.unusedVariables false
set_option linter.unusedSimpArgs false
/-- Function 17: almonry/disk.New. -/
def T17 (k : KV) (sectors0 : Value) (w : World) : Prop :=
  Pu (binV (TypeDesc.int IntKind.i64) .lss sectors0 (Value.int IntKind.i64 1)) fun t5_1 =>
  Gd (isB false t5_1) (fun kk => kk sectors0 w) w fun t7_2 w_3 =>
  Gd (isB false t5_1) (fun kk => Pu (binV (TypeDesc.int IntKind.i64) .gtr t7_2 (Value.int IntKind.i64 65536)) fun vv => kk vv w_3) w_3 fun t8_4 w_5 =>
  Pu (pickV t5_1 (Value.bool true) t8_4) fun t9_6 =>
  IfB t9_6
    (k (.tuple #[(Value.pointer none), (Value.int IntKind.i64 1)]) w_5)
    (Pu (binV (TypeDesc.int IntKind.i64) .mul sectors0 (Value.int IntKind.i64 64)) fun t11_7 =>
  RunS Tryz.prog (Instr.makeSlice 123 t11_7 t11_7) w_5 fun t12_8 w_9 =>
  RunS Tryz.prog (Instr.makeMap 124 none) w_9 fun t13_10 w_11 =>
  RunS Tryz.prog (Instr.build 126 #[(0, t12_8), (1, t13_10)]) w_11 fun t14_12 w_13 =>
  New (Value.cells t14_12) 126 w_13 fun t15_14 w_15 =>
  k (.tuple #[t15_14, (Value.int IntKind.i64 0)]) w_15)
theorem e17 (k : KV) (sectors0 : Value) (w : World) : K KD Tryz.prog 16 (fun j =>  []) (fun j =>  none) (Tryz.f17.body.getD .skip) (retQ Tryz.prog Tryz.f17 k) (argF [sectors0]) w = T17 k sectors0 w := by kernel_rfl
theorem c17 {k : KV} {sectors0 : Value} {w : World} (h : T17 k sectors0 w) : Cl Tryz.prog 17 [sectors0] w k :=
  Cl_of_K KD_sound mixed Tryz.func17 (by kernel_rfl) (by kernel_rfl) ((e17 k sectors0 w).symm ▸ h)

/-- Function 38: (*almonry/disk.Disk).Sync. -/
def T38 (k : KV) (d0 : Value) (w : World) : Prop :=
  Cl Tryz.prog 110 [d0] w fun t5_1 w_2 =>
  Pu (binV (TypeDesc.int IntKind.i64) .neq t5_1 (Value.int IntKind.i64 0)) fun t7_3 =>
  IfB t7_3
    (k t5_1 w_2)
    (Cl Tryz.prog 111 [d0] w_2 fun t10_4 w_5 =>
  IfB t10_4
    (k (Value.int IntKind.i64 5) w_5)
    (Pu (nilV d0) fun t12_6 =>
  Pu (faV 1 t12_6) fun t13_7 =>
  Ld w_5 t13_7 fun t14_8 w_9 =>
  RunS Tryz.prog (Builtin.clear_ #[124] 0 #[t14_8]) w_9 fun u_10 w_11 =>
  k (Value.int IntKind.i64 0) w_11))
theorem e38 (k : KV) (d0 : Value) (w : World) : K KD Tryz.prog 15 (fun j =>  []) (fun j =>  none) (Tryz.f38.body.getD .skip) (retQ Tryz.prog Tryz.f38 k) (argF [d0]) w = T38 k d0 w := by kernel_rfl
theorem c38 {k : KV} {d0 : Value} {w : World} (h : T38 k d0 w) : Cl Tryz.prog 38 [d0] w k :=
  Cl_of_K KD_sound mixed Tryz.func38 (by kernel_rfl) (by kernel_rfl) ((e38 k d0 w).symm ▸ h)

/-- Function 40: (*almonry/disk.Disk).Read. -/
def T40 (k : KV) (d0 : Value) (atv1 : Value) (n2 : Value) (w : World) : Prop :=
  Cl Tryz.prog 110 [d0] w fun t10_1 w_2 =>
  Pu (binV (TypeDesc.int IntKind.i64) .neq t10_1 (Value.int IntKind.i64 0)) fun t12_3 =>
  IfB t12_3
    (k (.tuple #[(Value.string (ByteArray.mk #[])), t10_1]) w_2)
    (Cl Tryz.prog 114 [d0, atv1, n2] w_2 fun t17_4 w_5 =>
  Pu (unV .not t17_4) fun t18_6 =>
  IfB t18_6
    (k (.tuple #[(Value.string (ByteArray.mk #[])), (Value.int IntKind.i64 20)]) w_5)
    (Pu (nilV d0) fun t20_7 =>
  Pu (faV 0 t20_7) fun t21_8 =>
  Ld w_5 t21_8 fun t22_9 w_10 =>
  Pu (binV (TypeDesc.int IntKind.i64) .mul atv1 (Value.int IntKind.i64 64)) fun t24_11 =>
  Pu (binV (TypeDesc.int IntKind.i64) .add atv1 n2) fun t27_12 =>
  Pu (binV (TypeDesc.int IntKind.i64) .mul t27_12 (Value.int IntKind.i64 64)) fun t28_13 =>
  Pu (slV 1 t22_9 (some t24_11) (some t28_13) none) fun t29_14 =>
  RunS Tryz.prog (convert 123 9 t29_14) w_10 fun t30_15 w_16 =>
  k (.tuple #[t30_15, (Value.int IntKind.i64 0)]) w_16))
theorem e40 (k : KV) (d0 : Value) (atv1 : Value) (n2 : Value) (w : World) : K KD Tryz.prog 31 (fun j =>  []) (fun j =>  none) (Tryz.f40.body.getD .skip) (retQ Tryz.prog Tryz.f40 k) (argF [d0, atv1, n2]) w = T40 k d0 atv1 n2 w := by kernel_rfl
theorem c40 {k : KV} {d0 : Value} {atv1 : Value} {n2 : Value} {w : World} (h : T40 k d0 atv1 n2 w) : Cl Tryz.prog 40 [d0, atv1, n2] w k :=
  Cl_of_K KD_sound mixed Tryz.func40 (by kernel_rfl) (by kernel_rfl) ((e40 k d0 atv1 n2 w).symm ▸ h)

/-- Function 46: (*almonry/disk.Disk).Crash. -/
def T46 (k : KV) (d0 : Value) (how1 : Value) (w : World) : Prop :=
  Pu (binV (TypeDesc.pointer 126) .eql d0 (Value.pointer none)) fun t9_1 =>
  IfB t9_1
    (k (.tuple #[]) w)
    (Cl Tryz.prog 120 [d0] w fun t11_2 w_3 =>
  Pu (lenV t11_2) fun t12_4 =>
  ∃ (I_5 : List Value → World → Prop) (m_6 : List Value → World → Nat), I_5 [(Value.int IntKind.i64 0)] w_3 ∧
  ∀ (g_54 : Fr) (w_53 : World), ∀ t13_12 : Value, I_5 [t13_12] w_53 →
    (Pu (binV (TypeDesc.int IntKind.i64) .lss t13_12 t12_4) fun t14_55 =>
    IfB t14_55
      (Pu (ixV 1 t11_2 t13_12) fun t16_56 =>
    Ld w_53 t16_56 fun t17_57 w_58 =>
    Jn (fun vs_76 w_75 => ∀ g_77 : Fr, ∃ fate6_60 : Value, vs_76 = [fate6_60] ∧
        (Pu (binV (TypeDesc.int IntKind.i64) .quo fate6_60 (Value.int IntKind.i64 3)) fun t33_78 =>
        Pu (binV (TypeDesc.int IntKind.i64) .rem t33_78 (Value.int IntKind.i64 65)) fun t34_79 =>
        RunS Tryz.prog (Instr.build 163 #[(0, (Value.int IntKind.i64 0)), (1, (Value.int IntKind.i64 64)), (2, t34_79)]) w_75 fun t35_80 w_81 =>
        Pu (binV (TypeDesc.int IntKind.i64) .rem fate6_60 (Value.int IntKind.i64 3)) fun t37_82 =>
        Pu (ixG false 3 1 t35_80 t37_82) fun t38_83 =>
        ∃ C_84 : World → Prop, C_84 (World.drew w_81) ∧
        (Pu (nilV d0) fun t45_85 =>
        Pu (faV 1 t45_85) fun t46_86 =>
        ∃ t47_87, (∀ w_88, C_84 w_88 → Ld w_88 t46_86 fun t47_89 w_90 =>
        t47_89 = t47_87 ∧ w_90 = w_88) ∧
        (∃ t49_91, (∀ w_92, C_84 w_92 → RunS Tryz.prog (Instr.lookup 124 t47_87 t17_57 false) w_92 fun t49_93 w_94 =>
        t49_93 = t49_91 ∧ w_94 = w_92) ∧
        (Pu (slS t49_91 (some t38_83) none) fun t51_95 =>
        Cl Tryz.prog 121 [d0, t17_57] (World.drew w_81) fun t41_96 w_97 =>
        C_84 w_97 ∧
        (Pu (slV 1 t41_96 (some t38_83) none none) fun t43_98 =>
        RunS Tryz.prog (Builtin.copy_ #[123, 9] 3 #[t43_98, t51_95]) w_97 fun t52_99 w_100 =>
        Pu (binV (TypeDesc.int IntKind.i64) .add t13_12 (Value.int IntKind.i64 1)) fun t53_101 =>
    I_5 [t53_101] w_100 ∧ m_6 [t53_101] w_100 < m_6 [t13_12] w_53))))))
      (fun jj_59 =>
      Pu (lenV how1) fun t20_102 =>
      Pu (binV (TypeDesc.int IntKind.i64) .lss t13_12 t20_102) fun t21_103 =>
      IfB t21_103
        (Pu (ixV 1 how1 t13_12) fun t24_104 =>
          Ld (World.drew w_58) t24_104 fun t25_105 w_106 =>
          w_106 = (World.drew w_58) ∧
          Pu (ixV 1 how1 t13_12) fun t28_107 =>
          Ld (World.drew w_58) t28_107 fun t29_108 w_109 =>
          w_109 = (World.drew w_58) ∧
          Pu (unV .xor t29_108) fun t30_110 =>
          Pu (foldV0 max2V [t25_105, t30_110]) fun t31_111 =>
          jj_59 [t31_111] (World.drew w_58))
        (jj_59 [(Value.int IntKind.i64 0)] w_58)))
      (Pu (nilV d0) fun t55_112 =>
  Pu (faV 1 t55_112) fun t56_113 =>
  Ld w_53 t56_113 fun t57_114 w_115 =>
  RunS Tryz.prog (Builtin.clear_ #[124] 0 #[t57_114]) w_115 fun u_116 w_117 =>
  Pu (nilV d0) fun t60_118 =>
  Pu (faV 3 t60_118) fun t61_119 =>
  St 1 w_117 t61_119 (Value.bool false) fun u_120 w_121 =>
  Pu (nilV d0) fun t62_122 =>
  Pu (faV 2 t62_122) fun t63_123 =>
  St 1 w_121 t63_123 (Value.int IntKind.i64 0) fun u_124 w_125 =>
  k (.tuple #[]) w_125)))
theorem e46 (k : KV) (d0 : Value) (how1 : Value) (w : World) : K KD Tryz.prog 64 (fun j => bif Nat.beq j 2 then [13] else []) (fun j => bif Nat.beq j 7 then some [6] else none) (Tryz.f46.body.getD .skip) (retQ Tryz.prog Tryz.f46 k) (argF [d0, how1]) w = T46 k d0 how1 w := by kernel_rfl
theorem c46 {k : KV} {d0 : Value} {how1 : Value} {w : World} (h : T46 k d0 how1 w) : Cl Tryz.prog 46 [d0, how1] w k :=
  Cl_of_K KD_sound mixed Tryz.func46 (by kernel_rfl) (by kernel_rfl) ((e46 k d0 how1 w).symm ▸ h)

/-- Function 94: (*almonry/disk.Disk).Write. -/
def T94 (k : KV) (d0 : Value) (atv1 : Value) (data2 : Value) (w : World) : Prop :=
  Cl Tryz.prog 110 [d0] w fun t11_1 w_2 =>
  Pu (binV (TypeDesc.int IntKind.i64) .neq t11_1 (Value.int IntKind.i64 0)) fun t13_3 =>
  IfB t13_3
    (k t11_1 w_2)
    (Pu (lenS data2) fun t16_4 =>
  Pu (binV (TypeDesc.int IntKind.i64) .rem t16_4 (Value.int IntKind.i64 64)) fun t17_5 =>
  Pu (binV (TypeDesc.int IntKind.i64) .neq t17_5 (Value.int IntKind.i64 0)) fun t18_6 =>
  Gd (isB false t18_6) (fun kk => kk d0 w_2) w_2 fun t20_7 w_8 =>
  Gd (isB false t18_6) (fun kk => kk atv1 w_8) w_8 fun t21_9 w_10 =>
  Gd (isB false t18_6) (fun kk => kk data2 w_10) w_10 fun t22_11 w_12 =>
  Gd (isB false t18_6) (fun kk => Pu (lenS t22_11) fun vv => kk vv w_12) w_12 fun t23_13 w_14 =>
  Gd (isB false t18_6) (fun kk => Pu (binV (TypeDesc.int IntKind.i64) .quo t23_13 (Value.int IntKind.i64 64)) fun vv => kk vv w_14) w_14 fun t24_15 w_16 =>
  Gd (isB false t18_6) (fun kk => Cl Tryz.prog 114 [t20_7, t21_9, t24_15] w_16 kk) w_16 fun t25_17 w_18 =>
  Gd (isB false t18_6) (fun kk => Pu (unV .not t25_17) fun vv => kk vv w_18) w_18 fun t26_19 w_20 =>
  Pu (pickV t18_6 (Value.bool true) t26_19) fun t27_21 =>
  IfB t27_21
    (k (Value.int IntKind.i64 20) w_20)
    (∃ (I_22 : List Value → World → Prop) (m_23 : List Value → World → Nat), I_22 [atv1, data2] w_20 ∧
  ∀ (g_65 : Fr) (w_64 : World), ∀ atv1_25 : Value, ∀ data2_26 : Value, I_22 [atv1_25, data2_26] w_64 →
    (Pu (binV TypeDesc.string .neq data2_26 (Value.string (ByteArray.mk #[]))) fun t29_66 =>
    IfB t29_66
      (Jn (fun vs_91 w_90 => ∀ g_92 : Fr, vs_91 = [] ∧
        (Pu (slS data2_26 none (some (Value.int IntKind.i64 64))) fun t56_93 =>
        Cl Tryz.prog 121 [d0, atv1_25] (World.drew w_90) fun t54_94 w_95 =>
        RunS Tryz.prog (Builtin.copy_ #[123, 9] 3 #[t54_94, t56_93]) w_95 fun t57_96 w_97 =>
        Pu (slS data2_26 (some (Value.int IntKind.i64 64)) none) fun t59_98 =>
        Cl Tryz.prog 111 [d0] w_97 fun t61_99 w_100 =>
        IfB t61_99
          (k (Value.int IntKind.i64 5) w_100)
          (Pu (binV (TypeDesc.int IntKind.i64) .add atv1_25 (Value.int IntKind.i64 1)) fun t31_101 =>
    I_22 [t31_101, t59_98] w_100 ∧ m_23 [t31_101, t59_98] w_100 < m_23 [atv1_25, data2_26] w_64)))
      (fun jj_67 =>
      Pu (nilV d0) fun t34_102 =>
      Pu (faV 1 t34_102) fun t35_103 =>
      Ld w_64 t35_103 fun t36_104 w_105 =>
      RunS Tryz.prog (Instr.lookup 124 t36_104 atv1_25 true) w_105 fun t38_106 w_107 =>
      Pu (extV t38_106 0) fun t39_108 =>
      Pu (extV t38_106 1) fun t40_109 =>
      Pu (unV .not t40_109) fun t42_110 =>
      IfB t42_110
        (∃ C_111 : World → Prop, C_111 (World.drew w_107) ∧
          (Pu (nilV d0) fun t44_112 =>
          Pu (faV 1 t44_112) fun t45_113 =>
          ∃ t46_114, (∀ w_115, C_111 w_115 → Ld w_115 t45_113 fun t46_116 w_117 =>
          t46_116 = t46_114 ∧ w_117 = w_115) ∧
          (Cl Tryz.prog 121 [d0, atv1_25] (World.drew w_107) fun t50_118 w_119 =>
          C_111 w_119 ∧
          (RunS Tryz.prog (convert 123 9 t50_118) w_119 fun t51_120 w_121 =>
          w_121 = w_119 ∧
          RunU Tryz.prog (Instr.mapUpdate 124 t46_114 atv1_25 t51_120) w_119 fun u_122 w_123 =>
          jj_67 [] w_123))))
        (jj_67 [] w_107)))
      (k (Value.int IntKind.i64 0) w_64))))
theorem e94 (k : KV) (d0 : Value) (atv1 : Value) (data2 : Value) (w : World) : K KD Tryz.prog 62 (fun j => bif Nat.beq j 6 then [1, 2] else []) (fun j => bif Nat.beq j 11 then some [] else none) (Tryz.f94.body.getD .skip) (retQ Tryz.prog Tryz.f94 k) (argF [d0, atv1, data2]) w = T94 k d0 atv1 data2 w := by kernel_rfl
theorem c94 {k : KV} {d0 : Value} {atv1 : Value} {data2 : Value} {w : World} (h : T94 k d0 atv1 data2 w) : Cl Tryz.prog 94 [d0, atv1, data2] w k :=
  Cl_of_K KD_sound mixed Tryz.func94 (by kernel_rfl) (by kernel_rfl) ((e94 k d0 atv1 data2 w).symm ▸ h)

/-- Function 108: (*almonry/disk.Disk).Size. -/
def T108 (k : KV) (d0 : Value) (w : World) : Prop :=
  Pu (binV (TypeDesc.pointer 126) .eql d0 (Value.pointer none)) fun t4_1 =>
  IfB t4_1
    (k (Value.int IntKind.i64 0) w)
    (Pu (nilV d0) fun t6_2 =>
  Pu (faV 0 t6_2) fun t7_3 =>
  Ld w t7_3 fun t8_4 w_5 =>
  Pu (lenV t8_4) fun t9_6 =>
  Pu (binV (TypeDesc.int IntKind.i64) .quo t9_6 (Value.int IntKind.i64 64)) fun t10_7 =>
  k t10_7 w_5)
theorem e108 (k : KV) (d0 : Value) (w : World) : K KD Tryz.prog 11 (fun j =>  []) (fun j =>  none) (Tryz.f108.body.getD .skip) (retQ Tryz.prog Tryz.f108 k) (argF [d0]) w = T108 k d0 w := by kernel_rfl
theorem c108 {k : KV} {d0 : Value} {w : World} (h : T108 k d0 w) : Cl Tryz.prog 108 [d0] w k :=
  Cl_of_K KD_sound mixed Tryz.func108 (by kernel_rfl) (by kernel_rfl) ((e108 k d0 w).symm ▸ h)

/-- Function 110: (*almonry/disk.Disk).alive. -/
def T110 (k : KV) (d0 : Value) (w : World) : Prop :=
  Pu (binV (TypeDesc.pointer 126) .eql d0 (Value.pointer none)) fun t5_1 =>
  IfB t5_1
    (k (Value.int IntKind.i64 2) w)
    (Pu (nilV d0) fun t8_2 =>
      Pu (faV 3 t8_2) fun t9_3 =>
      Ld w t9_3 fun t10_4 w_5 =>
      IfB t10_4
        (k (Value.int IntKind.i64 5) w_5)
        (k (Value.int IntKind.i64 0) w_5))
theorem e110 (k : KV) (d0 : Value) (w : World) : K KD Tryz.prog 11 (fun j =>  []) (fun j =>  none) (Tryz.f110.body.getD .skip) (retQ Tryz.prog Tryz.f110 k) (argF [d0]) w = T110 k d0 w := by kernel_rfl
theorem c110 {k : KV} {d0 : Value} {w : World} (h : T110 k d0 w) : Cl Tryz.prog 110 [d0] w k :=
  Cl_of_K KD_sound mixed Tryz.func110 (by kernel_rfl) (by kernel_rfl) ((e110 k d0 w).symm ▸ h)

/-- Function 111: (*almonry/disk.Disk).act. -/
def T111 (k : KV) (d0 : Value) (w : World) : Prop :=
  Pu (nilV d0) fun t4_1 =>
  Pu (faV 4 t4_1) fun t5_2 =>
  Ld w t5_2 fun t6_3 w_4 =>
  Pu (binV (TypeDesc.int IntKind.i64) .add t6_3 (Value.int IntKind.i64 1)) fun t7_5 =>
  Pu (nilV d0) fun t8_6 =>
  Pu (faV 4 t8_6) fun t9_7 =>
  St 1 w_4 t9_7 t7_5 fun u_8 w_9 =>
  Jn (fun vs_32 w_31 => ∀ g_33 : Fr, vs_32 = [] ∧
      (Pu (nilV d0) fun t31_34 =>
      Pu (faV 3 t31_34) fun t32_35 =>
      Ld w_31 t32_35 fun t33_36 w_37 =>
      k t33_36 w_37))
    (fun jj_10 =>
    Pu (nilV d0) fun t11_38 =>
    Pu (faV 2 t11_38) fun t12_39 =>
    Ld w_9 t12_39 fun t13_40 w_41 =>
    Pu (binV (TypeDesc.int IntKind.i64) .gtr t13_40 (Value.int IntKind.i64 0)) fun t14_42 =>
    IfB t14_42
      (Pu (nilV d0) fun t16_43 =>
        Pu (faV 2 t16_43) fun t17_44 =>
        Ld w_41 t17_44 fun t18_45 w_46 =>
        Pu (binV (TypeDesc.int IntKind.i64) .sub t18_45 (Value.int IntKind.i64 1)) fun t19_47 =>
        Pu (nilV d0) fun t20_48 =>
        Pu (faV 2 t20_48) fun t21_49 =>
        St 1 w_46 t21_49 t19_47 fun u_50 w_51 =>
        Pu (nilV d0) fun t24_52 =>
        Pu (faV 2 t24_52) fun t25_53 =>
        Ld w_51 t25_53 fun t26_54 w_55 =>
        Pu (binV (TypeDesc.int IntKind.i64) .eql t26_54 (Value.int IntKind.i64 0)) fun t27_56 =>
        Pu (nilV d0) fun t28_57 =>
        Pu (faV 3 t28_57) fun t29_58 =>
        St 1 w_55 t29_58 t27_56 fun u_59 w_60 =>
        jj_10 [] w_60)
      (jj_10 [] w_41))
theorem e111 (k : KV) (d0 : Value) (w : World) : K KD Tryz.prog 34 (fun j =>  []) (fun j => bif Nat.beq j 5 then some [] else none) (Tryz.f111.body.getD .skip) (retQ Tryz.prog Tryz.f111 k) (argF [d0]) w = T111 k d0 w := by kernel_rfl
theorem c111 {k : KV} {d0 : Value} {w : World} (h : T111 k d0 w) : Cl Tryz.prog 111 [d0] w k :=
  Cl_of_K KD_sound mixed Tryz.func111 (by kernel_rfl) (by kernel_rfl) ((e111 k d0 w).symm ▸ h)

/-- Function 114: (*almonry/disk.Disk).has. -/
def T114 (k : KV) (d0 : Value) (atv1 : Value) (n2 : Value) (w : World) : Prop :=
  Pu (binV (TypeDesc.int IntKind.i64) .geq atv1 (Value.int IntKind.i64 0)) fun t8_1 =>
  Gd (isB true t8_1) (fun kk => kk n2 w) w fun t10_2 w_3 =>
  Gd (isB true t8_1) (fun kk => Pu (binV (TypeDesc.int IntKind.i64) .geq t10_2 (Value.int IntKind.i64 0)) fun vv => kk vv w_3) w_3 fun t11_4 w_5 =>
  Pu (pickV t8_1 t11_4 (Value.bool false)) fun t12_6 =>
  Gd (isB true t12_6) (fun kk => kk atv1 w_5) w_5 fun t14_7 w_8 =>
  Gd (isB true t12_6) (fun kk => kk d0 w_8) w_8 fun t15_9 w_10 =>
  Gd (isB true t12_6) (fun kk => Cl Tryz.prog 108 [t15_9] w_10 kk) w_10 fun t16_11 w_12 =>
  Gd (isB true t12_6) (fun kk => Pu (binV (TypeDesc.int IntKind.i64) .leq t14_7 t16_11) fun vv => kk vv w_12) w_12 fun t17_13 w_14 =>
  Pu (pickV t12_6 t17_13 (Value.bool false)) fun t18_15 =>
  Gd (isB true t18_15) (fun kk => kk n2 w_14) w_14 fun t20_16 w_17 =>
  Gd (isB true t18_15) (fun kk => kk d0 w_17) w_17 fun t21_18 w_19 =>
  Gd (isB true t18_15) (fun kk => Cl Tryz.prog 108 [t21_18] w_19 kk) w_19 fun t22_20 w_21 =>
  Gd (isB true t18_15) (fun kk => kk atv1 w_21) w_21 fun t23_22 w_23 =>
  Gd (isB true t18_15) (fun kk => Pu (binV (TypeDesc.int IntKind.i64) .sub t22_20 t23_22) fun vv => kk vv w_23) w_23 fun t24_24 w_25 =>
  Gd (isB true t18_15) (fun kk => Pu (binV (TypeDesc.int IntKind.i64) .leq t20_16 t24_24) fun vv => kk vv w_25) w_25 fun t25_26 w_27 =>
  Pu (pickV t18_15 t25_26 (Value.bool false)) fun t26_28 =>
  k t26_28 w_27
theorem e114 (k : KV) (d0 : Value) (atv1 : Value) (n2 : Value) (w : World) : K KD Tryz.prog 27 (fun j =>  []) (fun j =>  none) (Tryz.f114.body.getD .skip) (retQ Tryz.prog Tryz.f114 k) (argF [d0, atv1, n2]) w = T114 k d0 atv1 n2 w := by kernel_rfl
theorem c114 {k : KV} {d0 : Value} {atv1 : Value} {n2 : Value} {w : World} (h : T114 k d0 atv1 n2 w) : Cl Tryz.prog 114 [d0, atv1, n2] w k :=
  Cl_of_K KD_sound mixed Tryz.func114 (by kernel_rfl) (by kernel_rfl) ((e114 k d0 atv1 n2 w).symm ▸ h)

/-- Function 120: (*almonry/disk.Disk).Pending. -/
def T120 (k : KV) (d0 : Value) (w : World) : Prop :=
  Pu (binV (TypeDesc.pointer 126) .eql d0 (Value.pointer none)) fun t4_1 =>
  IfB t4_1
    (k (Value.slice none 0 0) w)
    (Pu (nilV d0) fun t6_2 =>
  Pu (faV 1 t6_2) fun t7_3 =>
  Ld w t7_3 fun t8_4 w_5 =>
  Cl Tryz.prog 191 [t8_4] w_5 fun t9_6 w_7 =>
  Cl Tryz.prog 118 [t9_6] w_7 fun t10_8 w_9 =>
  k t10_8 w_9)
theorem e120 (k : KV) (d0 : Value) (w : World) : K KD Tryz.prog 11 (fun j =>  []) (fun j =>  none) (Tryz.f120.body.getD .skip) (retQ Tryz.prog Tryz.f120 k) (argF [d0]) w = T120 k d0 w := by kernel_rfl
theorem c120 {k : KV} {d0 : Value} {w : World} (h : T120 k d0 w) : Cl Tryz.prog 120 [d0] w k :=
  Cl_of_K KD_sound mixed Tryz.func120 (by kernel_rfl) (by kernel_rfl) ((e120 k d0 w).symm ▸ h)

/-- Function 121: (*almonry/disk.Disk).sector. -/
def T121 (k : KV) (d0 : Value) (n1 : Value) (w : World) : Prop :=
  Pu (nilV d0) fun t6_1 =>
  Pu (faV 0 t6_1) fun t7_2 =>
  Ld w t7_2 fun t8_3 w_4 =>
  Pu (binV (TypeDesc.int IntKind.i64) .mul n1 (Value.int IntKind.i64 64)) fun t10_5 =>
  Pu (binV (TypeDesc.int IntKind.i64) .add n1 (Value.int IntKind.i64 1)) fun t12_6 =>
  Pu (binV (TypeDesc.int IntKind.i64) .mul t12_6 (Value.int IntKind.i64 64)) fun t13_7 =>
  Pu (slV 1 t8_3 (some t10_5) (some t13_7) none) fun t14_8 =>
  k t14_8 w_4
theorem e121 (k : KV) (d0 : Value) (n1 : Value) (w : World) : K KD Tryz.prog 15 (fun j =>  []) (fun j =>  none) (Tryz.f121.body.getD .skip) (retQ Tryz.prog Tryz.f121 k) (argF [d0, n1]) w = T121 k d0 n1 w := by kernel_rfl
theorem c121 {k : KV} {d0 : Value} {n1 : Value} {w : World} (h : T121 k d0 n1 w) : Cl Tryz.prog 121 [d0, n1] w k :=
  Cl_of_K KD_sound mixed Tryz.func121 (by kernel_rfl) (by kernel_rfl) ((e121 k d0 n1 w).symm ▸ h)

end Go.Proofs.YthbngnlmgplijaaGreatDoor
