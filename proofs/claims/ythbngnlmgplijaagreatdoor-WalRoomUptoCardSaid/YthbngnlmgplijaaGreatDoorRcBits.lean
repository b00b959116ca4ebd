/- What package bits does: numbers laid and read (for records). -/
import Derived.Test.YthbngnlmgplijaaGreatDoorPgSame
import Derived.Test.YthbngnlmgplijaaGreatDoorCpsQ
namespace Go.Proofs.YthbngnlmgplijaaGreatDoor
open Go.Al Go.Proofs
set_option linter.unusedVariables false
set_option linter.unusedSimpArgs false
set_option linter.unusedSectionVars false
set_option maxRecDepth 100000

theorem E38w : ElemT Tryz.prog 123 5 1 1 := elemT_of Tryz.underlying123 (by kernel_rfl)
theorem bs38w (x : Int) (w : World) : (Instr.buildSlice 123 1 #[(0, .int .u8 x)]).run Tryz.prog w = .ok (.slice (some ⟨w.heap.size, 0, none⟩) 1 1) (w.alloc (.cells #[.int .u8 x] 5)) := by kernel_rfl
theorem bldR (s : Bs) (w : World) : (Instr.build 221 #[(0, stv s)]).run Tryz.prog w = .ok (.agg #[stv s, iv 0]) w := by kernel_rfl
theorem bldW (w : World) : (Instr.build 243 #[]).run Tryz.prog w = .ok (.agg #[.slice none 0 0]) w := by kernel_rfl

/-- A reader: in block r; the rest, and what was wrong. -/
def RdAt (w : World) (r : Nat) (s : Bs) (e : Int) : Prop := w.heap[r]? = some (.cells #[stv s, iv e] 221)
theorem RdAt.keep {S : Nat → Prop} {w w' : World} {r : Nat} {s : Bs} {e : Int} (h : RdAt w r s e) (hf : Fm S w w') (hs : ¬ S r) : RdAt w' r s e := hf.heap h hs
theorem RdAt.c0 {w : World} {r : Nat} {s : Bs} {e : Int} (h : RdAt w r s e) : w.cell? ⟨r, 0, none⟩ = some (stv s) := by rw [cell_at h]; rfl
theorem RdAt.c1 {w : World} {r : Nat} {s : Bs} {e : Int} (h : RdAt w r s e) : w.cell? ⟨r, 1, none⟩ = some (iv e) := by rw [cell_at h]; rfl
theorem RdAt.lt {w : World} {r : Nat} {s : Bs} {e : Int} (h : RdAt w r s e) : r < w.heap.size := lt_of_heap h

theorem bread_spec (w : World) (s : Bs) : Cl Tryz.prog 148 [stv s] w fun v w' => ∃ r, v = pv r ∧ w.heap.size ≤ r ∧ RdAt w' r s 0 ∧ Fm (fun _ => False) w w' := by
  refine c148 ?_; unfold T148
  refine RunS_ok (bldR s w) (New_any ?_)
  intro b w' hb hs hw hf
  exact ⟨b, rfl, by omega, hw, hf⟩
theorem bfail_spec {w : World} {r : Nat} {s : Bs} {e : Int} (h : RdAt w r s e) (x : Int) : Cl Tryz.prog 196 [pv r, iv x] w fun v w' => v = iv 0 ∧ RdAt w' r [] x ∧ Fm (· = r) w w' := by
  refine c196 ?_; unfold T196
  simp only [RS0, RS1, RS2, RS3, RS4, RS5, str_size, str_nil, str_inj]
  refine St_blk h (by simp) rfl ?_
  intro w1 h1 _ hf1
  refine St_blk h1 (by simp) rfl ?_
  intro w2 h2 _ hf2
  exact ⟨(by trivial), h2, hf1.trans hf2 (fun _ _ e => e) (fun _ _ e => e)⟩
theorem berr_spec {w : World} {r : Nat} {s : Bs} {e : Int} (h : RdAt w r s e) : Cl Tryz.prog 153 [pv r] w fun v w' => v = iv e ∧ w' = w := by
  refine c153 ?_; unfold T153
  simp only [RS0, RS1, RS2, RS3, RS4, RS5, h.c1, and_self]
theorem bleft_spec {w : World} {r : Nat} {s : Bs} {e : Int} (h : RdAt w r s e) : Cl Tryz.prog 197 [pv r] w fun v w' => v = iv s.length ∧ w' = w := by
  refine c197 ?_; unfold T197
  simp only [RS0, RS1, RS2, RS3, RS4, RS5, str_size, str_nil, str_inj, h.c0, and_self]
theorem bend_spec {w : World} {r : Nat} {s : Bs} {e : Int} (h : RdAt w r s e) : Cl Tryz.prog 154 [pv r] w fun v w' => v = iv (endE s e) ∧ w' = w := by
  refine c154 ?_; unfold T154
  refine (berr_spec h).mono ?_
  rintro _ w ⟨rfl, rfl⟩
  unfold endE
  by_cases he : e = 0
  · have e1 : (e == 0) = true := by simpa using he
    simp only [RS0, RS1, RS2, RS3, RS4, RS5, e1]
    refine (bleft_spec h).mono ?_
    rintro _ w ⟨rfl, rfl⟩
    have e2 : decide (e = 0) = true := by simpa using he
    by_cases hs : 0 < s.length
    · have e3 : decide ((0 : Int) < (s.length : Int)) = true := by rw [decide_eq_true_eq]; omega
      have e4 : decide (0 < s.length) = true := by simpa using hs
      simp only [RS0, RS1, RS2, RS3, RS4, RS5, e3, e2, e4, Bool.and_self, cond_true]
      exact ⟨(by trivial), (by trivial)⟩
    · have e3 : decide ((0 : Int) < (s.length : Int)) = false := by rw [decide_eq_false_iff_not]; omega
      have e4 : decide (0 < s.length) = false := by simpa using hs
      simp only [RS0, RS1, RS2, RS3, RS4, RS5, e3, e2, e4, Bool.and_false, cond_false]
      refine (berr_spec h).mono ?_
      rintro _ w ⟨rfl, rfl⟩
      exact ⟨(by trivial), (by trivial)⟩
  · have e1 : (e == 0) = false := by simpa using he
    have e2 : decide (e = 0) = false := by simpa using he
    simp only [RS0, RS1, RS2, RS3, RS4, RS5, e1, e2, Bool.false_and, cond_false]
    refine (berr_spec h).mono ?_
    rintro _ w ⟨rfl, rfl⟩
    exact ⟨(by trivial), (by trivial)⟩

theorem bnum_spec {w : World} {r : Nat} {s : Bs} {e : Int} (h : RdAt w r s e) (most : Int) (hs : s.length ≤ 9223372036854775807) (hm : most ≤ 9223372036854775807) :
    Cl Tryz.prog 150 [pv r, iv most] w fun v w' => v = iv (rdNum most s e).1 ∧ RdAt w' r (rdNum most s e).2.1 (rdNum most s e).2.2 ∧ Fm (· = r) w w' := by
  refine c150 ?_; unfold T150
  unfold rdNum
  by_cases he : e = 0
  · subst he
    simp only [RS0, RS1, RS2, RS3, RS4, RS5, h.c1, bne_self_eq_false, decide_true, cond_true]
    refine ⟨fun vs w2 => ∃ (k n : Nat), vs = [iv n, iv k] ∧ k ≤ 9 ∧ n < 2 ^ (7 * k) ∧ k ≤ s.length ∧ rdN most 9 0 0 s = rdN most (9 - k) k n (s.drop k) ∧ w2 = w, fun vs _ => (9 - nth vs 1).toNat, ⟨0, 0, rfl, by omega, by decide, by omega, rfl, rfl⟩, ?_⟩
    rintro _ w2 in_ ik ⟨k, n, hvs, hk, hn, hks, heq, rfl⟩
    cases hvs
    by_cases hlt : k < 9
    · have e1 : decide ((k : Int) < 9) = true := by rw [decide_eq_true_eq]; omega
      obtain ⟨f, hf⟩ : ∃ f, 9 - k = f + 1 := ⟨8 - k, by omega⟩
      rw [hf] at heq
      simp only [RS0, RS1, RS2, RS3, RS4, RS5, str_size, str_nil, str_inj, e1, h.c0]
      by_cases hsl : k < s.length
      · have e2 : decide ((s.length : Int) ≤ (k : Int)) = false := by rw [decide_eq_false_iff_not]; omega
        have hb : s[k]? = some s[k] := List.getElem?_eq_getElem hsl
        rw [List.drop_eq_getElem_cons hsl, rdN] at heq
        generalize s[k] = b at hb heq
        have hb256 : b.toNat < 256 := b.toNat_lt
        have hk63 : (2 : Nat) ^ (7 * k) ≤ 2 ^ 56 := Nat.pow_le_pow_right (by decide) (by omega)
        have hmod : b.toNat % 128 < 128 := Nat.mod_lt _ (by decide)
        have hpr : b.toNat % 128 * 2 ^ (7 * k) ≤ 127 * 2 ^ 56 := Nat.mul_le_mul (by omega) hk63
        have e3 : andI .u8 (b.toNat : Int) 127 = ((b.toNat % 128 : Nat) : Int) := by
          have := and_u8 b.toNat 127 hb256 (by decide)
          rw [and127] at this; exact this
        have e4 : cvI .i64 (.int .u8 ((b.toNat % 128 : Nat) : Int)) = some (iv ((b.toNat % 128 : Nat) : Int)) := by
          show some (iv (IntKind.i64.wrap _)) = _
          rw [wrap_nat (by omega)]
        have e5 : IntKind.i64.wrap (7 * (k : Int)) = ((7 * k : Nat) : Int) := by rw [wrap_id] <;> omega
        have e6 := shl_nat (b.toNat % 128) (7 * k) (by omega) (by omega) (TypeDesc.int IntKind.i64) .i64
        have e7 : orI .i64 (n : Int) ((b.toNat % 128 * 2 ^ (7 * k) : Nat) : Int) = ((n + b.toNat % 128 * 2 ^ (7 * k) : Nat) : Int) := by
          rw [or_i64 _ _ (by omega) (by omega), or_add hn]
        have e8 : 128 ^ k = 2 ^ (7 * k) := by rw [Nat.pow_mul]
        rw [e8] at heq
        have hn' : n + b.toNat % 128 * 2 ^ (7 * k) < 2 ^ (7 * (k + 1)) := by
          have h1 : 2 ^ (7 * (k + 1)) = 128 * 2 ^ (7 * k) := by rw [show 7 * (k + 1) = 7 * k + 7 by omega, Nat.pow_add]; omega
          have h2 : b.toNat % 128 * 2 ^ (7 * k) ≤ 127 * 2 ^ (7 * k) := Nat.mul_le_mul_right _ (by omega)
          omega
        generalize n + b.toNat % 128 * 2 ^ (7 * k) = n' at e7 heq hn'
        have hn62 : n' < 2 ^ 63 := Nat.lt_of_lt_of_le hn' (Nat.pow_le_pow_right (by decide) (by omega))
        simp only [RS0, RS1, RS2, RS3, RS4, RS5, str_size, str_nil, str_inj, e2, ixS_str hb, binV_and, e3, e4, e5, e6, binV_or, e7]
        have ebz : ((b.toNat : Int) == 0) = decide (b = 0) := by
          rw [beq_dec, decide_eq_decide]
          constructor
          · intro h; apply UInt8.toNat.inj; simp; omega
          · rintro rfl; rfl
        have cont : decide (b = 0 ∧ 0 < k) = false → IfB (.bool (decide ((128 : Int) ≤ (b.toNat : Int))))
            (Pu (binV (TypeDesc.int IntKind.i64) .add (iv (k : Nat)) (Value.int IntKind.i64 1)) fun t73_107 =>
              (∃ (k_1 n_1 : Nat), [iv (n' : Nat), t73_107] = [iv n_1, iv k_1] ∧ k_1 ≤ 9 ∧ n_1 < 2 ^ (7 * k_1) ∧ k_1 ≤ s.length ∧ rdN most 9 0 0 s = rdN most (9 - k_1) k_1 n_1 (s.drop k_1) ∧ w2 = w2) ∧ (9 - nth [iv (n' : Nat), t73_107] 1).toNat < (9 - nth [iv (n : Nat), iv (k : Nat)] 1).toNat)
            (Pu (foldV0 max2V [iv most, (Value.int IntKind.i64 0)]) fun t58_108 =>
            Pu (binV (TypeDesc.int IntKind.i64) .gtr (iv (n' : Nat)) t58_108) fun t59_109 =>
            IfB t59_109
              (Cl Tryz.prog 196 [pv r, (Value.int IntKind.i64 11)] w2 fun v w' => v = iv (rdN most 9 0 0 s).1 ∧ RdAt w' r (rdN most 9 0 0 s).2.1 (rdN most 9 0 0 s).2.2 ∧ Fm (· = r) w2 w')
              (Pu (nilV (pv r)) fun t64_112 =>
              Pu (faV 0 t64_112) fun t65_113 =>
              Ld w2 t65_113 fun t66_114 w_115 =>
              Pu (binV (TypeDesc.int IntKind.i64) .add (iv (k : Nat)) (Value.int IntKind.i64 1)) fun t68_116 =>
              Pu (slS t66_114 (some t68_116) none) fun t69_117 =>
              Pu (nilV (pv r)) fun t70_118 =>
              Pu (faV 0 t70_118) fun t71_119 =>
              St 1 w_115 t71_119 t69_117 fun u_120 w_121 =>
              iv (n' : Nat) = iv (rdN most 9 0 0 s).1 ∧ RdAt w_121 r (rdN most 9 0 0 s).2.1 (rdN most 9 0 0 s).2.2 ∧ Fm (· = r) w2 w_121)) := by
          intro hz
          simp only [hz, cond_false] at heq
          have e9 : IntKind.i64.wrap ((k : Int) + 1) = ((k + 1 : Nat) : Int) := by rw [wrap_id] <;> omega
          by_cases hbig : 128 ≤ b.toNat
          · have z1 : decide ((128 : Int) ≤ (b.toNat : Int)) = true := by rw [decide_eq_true_eq]; omega
            have z2 : decide (128 ≤ b.toNat) = true := by simpa using hbig
            simp only [z2, cond_true] at heq
            simp only [RS0, RS1, RS2, RS3, RS4, RS5, z1, e9]
            exact ⟨⟨k + 1, n', rfl, by omega, hn', by omega, by rw [heq, show 9 - (k + 1) = f by omega], trivial⟩, by simp only [nth_1]; omega⟩
          · have z1 : decide ((128 : Int) ≤ (b.toNat : Int)) = false := by rw [decide_eq_false_iff_not]; omega
            have z2 : decide (128 ≤ b.toNat) = false := by simpa using hbig
            have z3 : max2V (iv most) (iv 0) = some (iv (max most 0)) := by
              show some (iv (if (0 : Int) > most then 0 else most)) = _
              congr 2
              split <;> omega
            simp only [z2, cond_false] at heq
            simp only [RS0, RS1, RS2, RS3, RS4, RS5, z1, foldV0, foldV, z3, Option.bind_some]
            by_cases hmx : max most 0 < (n' : Int)
            · have z4 : decide (max most 0 < (n' : Int)) = true := by simpa using hmx
              simp only [z4, cond_true] at heq
              simp only [RS0, RS1, RS2, RS3, RS4, RS5, z4]
              refine (bfail_spec h 11).mono ?_
              rintro _ w3 ⟨rfl, h3, hf3⟩
              rw [heq]
              exact ⟨(by trivial), h3, hf3⟩
            · have z4 : decide (max most 0 < (n' : Int)) = false := by simpa using hmx
              simp only [z4, cond_false] at heq
              have z5 := slS_lo (l := s) (i := k + 1) (by omega) .i64
              simp only [RS0, RS1, RS2, RS3, RS4, RS5, z4, h.c0, e9, z5]
              refine St_blk h (by simp) rfl ?_
              intro w3 h3 _ hf3
              rw [heq]
              exact ⟨rfl, h3, hf3⟩
        rw [ebz]
        by_cases hz : b = 0
        · have z1 : decide (b = 0) = true := by simpa using hz
          by_cases hkp : 0 < k
          · have z2 : decide ((0 : Int) < (k : Int)) = true := by rw [decide_eq_true_eq]; omega
            have z3 : decide (b = 0 ∧ 0 < k) = true := by simp [hz, hkp]
            simp only [z3, cond_true] at heq
            simp only [RS0, RS1, RS2, RS3, RS4, RS5, z1, z2]
            refine (bfail_spec h 11).mono ?_
            rintro _ w3 ⟨rfl, h3, hf3⟩
            rw [heq]
            exact ⟨(by trivial), h3, hf3⟩
          · have z2 : decide ((0 : Int) < (k : Int)) = false := by rw [decide_eq_false_iff_not]; omega
            have c := cont (by simp [hkp])
            simp only [RS0, RS1, RS2, RS3, RS4, RS5] at c
            simp only [RS0, RS1, RS2, RS3, RS4, RS5, z1, z2]
            exact c
        · have z1 : decide (b = 0) = false := by simpa using hz
          have c := cont (by simp [hz])
          simp only [RS0, RS1, RS2, RS3, RS4, RS5] at c
          simp only [RS0, RS1, RS2, RS3, RS4, RS5, z1]
          exact c
      · have e2 : decide ((s.length : Int) ≤ (k : Int)) = true := by rw [decide_eq_true_eq]; omega
        rw [List.drop_eq_nil_of_le (by omega), rdN] at heq
        simp only [RS0, RS1, RS2, RS3, RS4, RS5, e2]
        refine (bfail_spec h 10).mono ?_
        rintro _ w3 ⟨rfl, h3, hf3⟩
        rw [heq]
        exact ⟨(by trivial), h3, hf3⟩
    · have hke : k = 9 := by omega
      subst hke
      have e1 : decide (((9 : Nat) : Int) < 9) = false := rfl
      rw [Nat.sub_self, rdN] at heq
      simp only [RS0, RS1, RS2, RS3, RS4, RS5, e1]
      refine (bfail_spec h 11).mono ?_
      rintro _ w3 ⟨rfl, h3, hf3⟩
      rw [heq]
      exact ⟨(by trivial), h3, hf3⟩
  · have e1 : (e != 0) = true := by rw [bne_dec]; simp [he]
    have e2 : decide (e = 0) = false := by simpa using he
    simp only [RS0, RS1, RS2, RS3, RS4, RS5, h.c1, e1, e2, cond_false]
    exact ⟨(by trivial), h, Fm.refl _ _⟩

/-- What a writer's row is. -/
def ownNow (w : World) (r y : Nat) : Prop := ∃ v, w.heap[r]? = some (.cells #[v] 243) ∧ v.ownBlock = some y
/-- What a writer may turn: its block and its row. -/
def wrM (w : World) (r y : Nat) : Prop := y = r ∨ ownNow w r y
/-- A writer: in block r; what it has laid, in a row of the call's own. -/
structure WrAt (w : World) (r : Nat) (B : Bs) : Prop where
  ex : ∃ v, w.heap[r]? = some (.cells #[v] 243) ∧ w.ownsRow 0 5 1 v B.length (bc B)
theorem WrAt.keep {S : Nat → Prop} {w w' : World} {r : Nat} {B : Bs} (h : WrAt w r B) (hf : Fm S w w') (hs : ∀ y, wrM w r y → ¬ S y) : WrAt w' r B ∧ ∀ y, wrM w' r y ↔ wrM w r y := by
  obtain ⟨v, hv, ho⟩ := h.ex
  have hr := hf.heap hv (hs r (.inl rfl))
  refine ⟨⟨v, hr, own_keep ho hf fun k _ _ hk => hs k (.inr ⟨v, hv, hk⟩)⟩, fun y => ?_⟩
  unfold wrM ownNow
  rw [hr, hv]
theorem WrAt.lt {w : World} {r : Nat} {B : Bs} (h : WrAt w r B) : ∀ y, wrM w r y → y < w.heap.size := by
  obtain ⟨v, hv, ho⟩ := h.ex
  rintro y (rfl | ⟨v', hv', hy⟩)
  · exact lt_of_heap hv
  · rw [hv] at hv'; cases hv'; exact (ho.lt y hy).2
theorem bnew_spec (w : World) : Cl Tryz.prog 199 [] w fun v w' => v = pv w.heap.size ∧ WrAt w' w.heap.size [] ∧ (∀ y, wrM w' w.heap.size y → y = w.heap.size) ∧ Fm (fun _ => False) w w' := by
  refine c199 ?_; unfold T199
  refine RunS_ok (bldW w) (New_any ?_)
  intro b w' hb hs hw hf
  subst hb
  refine ⟨rfl, ⟨_, hw, World.ownsRow_nil _ _ _ _⟩, ?_, hf⟩
  rintro y (h | ⟨v, hv, hy⟩)
  · exact h
  · rw [hw] at hv; cases hv; cases hy
theorem bbytes_spec {w : World} {r : Nat} {B : Bs} (h : WrAt w r B) : Cl Tryz.prog 203 [pv r] w fun v w' => v = stv B ∧ w' = w := by
  obtain ⟨v, hv, ho⟩ := h.ex
  refine c203 ?_; unfold T203
  have c0 : w.cell? ⟨r, 0, none⟩ = some v := by rw [cell_at hv]; rfl
  simp only [RS0, RS1, RS2, RS3, RS4, RS5, c0]
  exact RunS_ok (conv_own B38 ho) ⟨rfl, rfl⟩
/-- A byte is laid. -/
theorem wput {w : World} {r : Nat} {B : Bs} (h : WrAt w r B) (hl : B.length ≤ 1099511627776) (x : UInt8) {k : KV} (hk : ∀ w', WrAt w' r (B ++ [x]) → Fm (wrM w r) w w' → (∀ y, wrM w' r y → wrM w r y ∨ w.heap.size ≤ y) → k undef w') :
    Pu (nilV (pv r)) fun t22_71 =>
      Pu (faV 0 t22_71) fun t23_72 =>
      Ld w t23_72 fun t24_73 w_74 =>
      RunS Tryz.prog (Instr.buildSlice 123 1 #[(0, .int .u8 x.toNat)]) w_74 fun t28_77 w_78 =>
      RunS Tryz.prog (Builtin.append_ #[123, 123] 123 #[t24_73, t28_77]) w_78 fun t29_79 w_80 =>
      Pu (nilV (pv r)) fun t30_81 =>
      Pu (faV 0 t30_81) fun t31_82 =>
      St 1 w_80 t31_82 t29_79 k := by
  obtain ⟨v, hv, ho⟩ := h.ex
  have c0 : w.cell? ⟨r, 0, none⟩ = some v := by rw [cell_at hv]; rfl
  have hrlt := lt_of_heap hv
  simp only [RS0, RS1, RS2, RS3, RS4, RS5, c0]
  refine append_elF E38w (by omega) 123 (cs := [.int .u8 x.toNat]) rfl (bs38w _ _) (by intro u hu; simp at hu; subst hu; rfl) ho (by unfold maxLen; omega) (by omega) (Nat.zero_le _) ?_
  intro v' w1 ho1 hcase
  try simp only [RS0, RS1, RS2, RS3, RS4, RS5]
  have hvr : ∀ g, v.ownBlock = some g → g ≠ r := by
    rintro g hg rfl
    rcases ho.2 with ⟨rfl, _⟩ | ⟨g', cap, cur, rfl, _, hgg, _⟩
    · cases hg
    · have : g' = g := by simpa [Value.ownBlock] using hg
      subst this
      rw [hv] at hgg; cases hgg
  obtain ⟨S, hfS, hS1, hS2⟩ : ∃ S : Nat → Prop, Fm S w w1 ∧ (∀ y, S y → v.ownBlock = some y) ∧ (∀ g, v'.ownBlock = some g → v.ownBlock = some g ∨ w.heap.size ≤ g) := by
    rcases hcase with ⟨g, k1, k2, k3⟩ | ⟨g, k1, k2, k3⟩
    · exact ⟨_, k3, fun y hy => by rw [hy]; exact k1, fun g' hg' => by rw [k2] at hg'; cases hg'; exact .inl k1⟩
    · exact ⟨_, k3, fun _ e => e.elim, fun g' hg' => by rw [k1] at hg'; cases hg'; exact .inr k2⟩
  have hv1 := hfS.heap hv (fun e => hvr r (hS1 r e) rfl)
  refine St_blk hv1 (by simp) (own_one ho1) ?_
  intro w2 hw2 hs2 hf2
  refine hk w2 ⟨v', hw2, ?_⟩ (hfS.trans hf2 (fun y _ e => .inr ⟨v, hv, hS1 y e⟩) (fun _ _ e => .inl e)) ?_
  · have := own_keep ho1 hf2 (fun g _ _ hg e => by
      have e' : g = r := e
      rw [e'] at hg
      rcases hS2 r hg with h1 | h1
      · exact hvr r h1 rfl
      · omega)
    rw [List.length_append, bc_append]; exact this
  · rintro y (h1 | ⟨v2, hv2, hy⟩)
    · exact .inl (.inl h1)
    · replace hw2 : w2.heap[r]? = some (.cells #[v'] 243) := hw2
      rw [hw2] at hv2; cases hv2
      rcases hS2 y hy with h1 | h1
      · exact .inl (.inr ⟨v, hv, h1⟩)
      · exact .inr h1
theorem u8_wrap_nat (c : Nat) : IntKind.u8.wrap (c : Int) = ((c % 256 : Nat) : Int) := by
  unfold IntKind.wrap; simp [IntKind.bits, IntKind.signed]
def encI (n : Int) : Bs := encN (max n 0).toNat
set_option maxHeartbeats 1000000 in
theorem wnum_spec {w : World} {r : Nat} {B : Bs} (h : WrAt w r B) {v : Value} {ns : List Int} (hns : CellsAt w v ns.length 1 (ns.map iv)) (hblk : ns ≠ [] → ∀ g, blockOf v = some g → ¬ wrM w r g) (hin : ∀ n ∈ ns, n ≤ 9223372036854775807)
    (hl : B.length + 9 * ns.length ≤ 1000000000000) :
    Cl Tryz.prog 200 [pv r, v] w fun u w' => WrAt w' r (B ++ ns.flatMap encI) ∧ Fm (wrM w r) w w' ∧ ∀ y, wrM w' r y → wrM w r y ∨ w.heap.size ≤ y := by
  refine c200 ?_; unfold T200
  simp only [RS0, RS1, RS2, RS3, RS4, RS5, hns.lenV]
  refine ⟨fun vs w2 => ∃ k : Nat, vs = [iv k] ∧ k ≤ ns.length ∧ WrAt w2 r (B ++ (ns.take k).flatMap encI) ∧ Fm (wrM w r) w w2 ∧ (∀ y, wrM w2 r y → wrM w r y ∨ w.heap.size ≤ y), fun vs _ => (ns.length - nth vs 0).toNat, ⟨0, rfl, by omega, by simpa using h, Fm.refl _ _, fun _ h => .inl h⟩, ?_⟩
  rintro _ w2 ik ⟨k, hvs, hk, h2, hf2, hm2⟩
  cases hvs
  have elen : ∀ n ∈ ns, (encI n).length ≤ 9 := fun n hn => (encN_le (by have := hin n hn; omega)).2
  have hfl : ∀ l : List Int, (∀ n ∈ l, (encI n).length ≤ 9) → (l.flatMap encI).length ≤ 9 * l.length := by
    intro l
    induction l with
    | nil => intro _; simp
    | cons n l ih =>
      intro hl
      have := ih (fun m hm => hl m (by simp [hm]))
      have := hl n (by simp)
      simp only [List.flatMap_cons, List.length_append, List.length_cons]; omega
  by_cases hlt : k < ns.length
  · have e1 : decide ((k : Int) < (ns.length : Int)) = true := by rw [decide_eq_true_eq]; omega
    have hx : ns[k]? = some ns[k] := List.getElem?_eq_getElem hlt
    have hmem := List.getElem_mem hlt
    have hxin := hin _ hmem
    have hel := elen _ hmem
    have hpre := hfl (ns.take k) (fun n hn => elen n (List.mem_of_mem_take hn))
    rw [List.length_take, Nat.min_eq_left hk] at hpre
    generalize ns[k] = n at hx hxin hel
    obtain ⟨ad, hix, _, hc⟩ := (hns.keepAny hf2 (fun hne g hg => hblk (fun e => hne (by rw [e]; rfl)) g hg)).at1 (i := k) (x := iv n) (by rw [List.getElem?_map, hx]; rfl) .i64
    have z3 : max2V (iv n) (iv 0) = some (iv (max n 0)) := by
      show some (iv (if (0 : Int) > n then 0 else n)) = _
      congr 2
      split <;> omega
    simp only [RS0, RS1, RS2, RS3, RS4, RS5, e1, hix, hc, foldV0, foldV, z3, Option.bind_some]
    obtain ⟨c0, hc0⟩ := Int.eq_ofNat_of_zero_le (show 0 ≤ max n 0 by omega)
    have henc : encI n = encN c0 := by unfold encI; rw [hc0]; rfl
    rw [hc0]
    have hpl : (B ++ (ns.take k).flatMap encI).length ≤ 999999999991 := by rw [List.length_append]; omega
    rw [henc] at hel
    generalize hP : B ++ (ns.take k).flatMap encI = P at h2 hpl
    refine ⟨fun vs w3 => ∃ (c : Nat) (Q : Bs), vs = [iv c] ∧ c ≤ 9223372036854775807 ∧ WrAt w3 r Q ∧ Q ++ encN c = P ++ encN c0 ∧ Fm (wrM w r) w w3 ∧ (∀ y, wrM w3 r y → wrM w r y ∨ w.heap.size ≤ y), fun vs _ => (nth vs 0).toNat, ⟨c0, P, rfl, by omega, h2, rfl, hf2, hm2⟩, ?_⟩
    rintro _ w3 ic ⟨c, Q, hvs, hcm, h3, hQ, hf3, hm3⟩
    cases hvs
    have hQl : Q.length ≤ 1000000000000 := by
      have := congrArg List.length hQ
      rw [List.length_append, List.length_append] at this
      omega
    by_cases hbig : 127 < c
    · have e2 : decide ((127 : Int) < (c : Int)) = true := by rw [decide_eq_true_eq]; omega
      have e3 : cvI .u8 (iv c) = some (.int .u8 ((c % 256 : Nat) : Int)) := by rw [← u8_wrap_nat]; rfl
      have e4 : orI .u8 ((c % 256 : Nat) : Int) 128 = (((UInt8.ofNat (c % 128 + 128)).toNat : Nat) : Int) := by
        have := or_u8 (c % 256) 128 (by omega) (by decide)
        rw [or128 (by omega), Nat.mod_mod_of_dvd c (by decide)] at this
        rw [u8_ofNat (by omega)]; exact this
      have e5 := shr_nat c 7 (by omega) (TypeDesc.int IntKind.i64) .u64
      simp only [RS0, RS1, RS2, RS3, RS4, RS5, e2, e3, binV_or, e4]
      have key := wput h3 (by omega) (UInt8.ofNat (c % 128 + 128)) (k := fun u_83 w_84 => Pu (binV (TypeDesc.int IntKind.i64) .shr (iv c) (Value.int IntKind.u64 7)) fun t19_85 =>
        (∃ (c : Nat) (Q : Bs), [t19_85] = [iv c] ∧ c ≤ 9223372036854775807 ∧ WrAt w_84 r Q ∧ Q ++ encN c = P ++ encN c0 ∧ Fm (wrM w r) w w_84 ∧ (∀ y, wrM w_84 r y → wrM w r y ∨ w.heap.size ≤ y)) ∧ (nth [t19_85] 0).toNat < (nth [iv (c : Nat)] 0).toNat) (by
          intro w4 h4 hf4 hm4
          have hF4 : Fm (wrM w r) w w4 := hf3.trans hf4 (fun _ _ e => e) (fun y hy e => by rcases hm3 y e with h | h; exact h; omega)
          have hM4 : ∀ y, wrM w4 r y → wrM w r y ∨ w.heap.size ≤ y := fun y hy => by
            rcases hm4 y hy with h | h
            · exact hm3 y h
            · have := hf3.size; exact .inr (by omega)
          have e5' : binV (TypeDesc.int IntKind.i64) .shr (iv c) (Value.int IntKind.u64 7) = some (iv ((c / 2 ^ 7 : Nat) : Int)) := e5
          rw [e5', Pu_some]
          refine ⟨⟨c / 2 ^ 7, _, rfl, by omega, h4, ?_, hF4, hM4⟩, by simp only [nth_0]; omega⟩
          rw [← hQ, encN_big hbig, List.append_assoc]; rfl)
      simp only [RS0, RS1, RS2, RS3, RS4, RS5] at key
      exact key
    · have e2 : decide ((127 : Int) < (c : Int)) = false := by rw [decide_eq_false_iff_not]; omega
      have e3 : cvI .u8 (iv c) = some (.int .u8 (((UInt8.ofNat c).toNat : Nat) : Int)) := by
        rw [u8_ofNat (by omega)]
        have := u8_wrap_nat c
        rw [Nat.mod_eq_of_lt (by omega)] at this
        show some (Value.int .u8 (IntKind.u8.wrap (c : Int))) = _
        rw [this]
      have e6 : IntKind.i64.wrap ((k : Int) + 1) = ((k + 1 : Nat) : Int) := by rw [wrap_id] <;> have := hns.lt <;> unfold maxLen at this <;> omega
      simp only [RS0, RS1, RS2, RS3, RS4, RS5, e2, e3]
      have key := wput h3 (by omega) (UInt8.ofNat c) (k := fun u_97 w_98 => Pu (binV (TypeDesc.int IntKind.i64) .add (iv (k : Nat)) (Value.int IntKind.i64 1)) fun t43_99 =>
        (∃ k : Nat, [t43_99] = [iv k] ∧ k ≤ ns.length ∧ WrAt w_98 r (B ++ (ns.take k).flatMap encI) ∧ Fm (wrM w r) w w_98 ∧ (∀ y, wrM w_98 r y → wrM w r y ∨ w.heap.size ≤ y)) ∧ (ns.length - nth [t43_99] 0).toNat < (ns.length - nth [iv (k : Nat)] 0).toNat) (by
          intro w4 h4 hf4 hm4
          have hF4 : Fm (wrM w r) w w4 := hf3.trans hf4 (fun _ _ e => e) (fun y hy e => by rcases hm3 y e with h | h; exact h; omega)
          have hM4 : ∀ y, wrM w4 r y → wrM w r y ∨ w.heap.size ≤ y := fun y hy => by
            rcases hm4 y hy with h | h
            · exact hm3 y h
            · have := hf3.size; exact .inr (by omega)
          rw [binV_add, Pu_some, e6]
          refine ⟨⟨k + 1, rfl, by omega, ?_, hF4, hM4⟩, by simp only [nth_0]; omega⟩
          have : B ++ (ns.take (k + 1)).flatMap encI = Q ++ [UInt8.ofNat c] := by
            rw [List.take_add_one, hx, List.flatMap_append, ← List.append_assoc, hP]
            show P ++ ([n].flatMap encI) = _
            rw [List.flatMap_cons, List.flatMap_nil, List.append_nil, henc, ← hQ, encN_small (by omega)]
          rw [this]; exact h4)
      simp only [RS0, RS1, RS2, RS3, RS4, RS5] at key
      exact key
  · have hke : k = ns.length := by omega
    subst hke
    have e1 : decide (((ns.length : Nat) : Int) < (ns.length : Int)) = false := by simp
    rw [List.take_length] at h2
    simp only [RS0, RS1, RS2, RS3, RS4, RS5, e1]
    exact ⟨h2, hf2, hm2⟩

end Go.Proofs.YthbngnlmgplijaaGreatDoor
